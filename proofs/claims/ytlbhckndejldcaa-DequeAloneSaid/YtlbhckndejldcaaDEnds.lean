/- ends: how many steps a machine takes by itself. -/
import Derived.Test.YtlbhckndejldcaaDMod
import Derived.Handy
namespace Go.Proofs.Ytlbhckndejldcaa
open Go.RowKit
attribute [local go_sem ↓] Go.wp_at_zero Go.wp_at_succ
set_option linter.unusedVariables false
def popE (l : Lay) : Nat → Int → Pt → List Int → Int × Pt × List Int
  | 0, n, p, m => (0, p, m)
  | k + 1, n, p, m => if (popS l p m).1.done = true then (n, (popS l p m).1, (popS l p m).2) else popE l k (n + 1) (popS l p m).1 (popS l p m).2
def popOKs (l : Lay) : Nat → Pt → List Int → Prop
  | 0, p, m => True
  | k + 1, p, m => PopOK l p m ∧ ((popS l p m).1.done = false → popOKs l k (popS l p m).1 (popS l p m).2)
set_option maxHeartbeats 2000000 in
set_option maxRecDepth 100000 in
theorem ends_pop (P B D : Nat) (l : Lay) (p : Pt) (m : List Int) (R : Int × Pt × List Int) (w : World) (h : PopAt w P l p) (hb : BankAt w B D m) (hPB : P ≠ B ∧ P ≠ D) (ok : popOKs l 9 p m) (hR : popE l 9 1 p m = R) :
    Calls Try.prog 73 #[.iface 74 (.pointer (some ⟨P, 0, none⟩)), .pointer (some ⟨B, 0, none⟩)] w fun e w' => e = .returned (.int .i64 R.1) ∧ Kept [P, D] w w' ∧ PopAt w' P l R.2.1 ∧ BankAt w' B D R.2.2 := by
  have H := hid h
  have HB := hid hb
  have HPB := hid hPB
  have HOK := hid ok
  have HR := hid hR
  clear h hb hPB ok hR
  go_enter Try.func73, Try.ntmps73
  go_wp2_with fail
  go_loopw [5] (fun S wr => ∃ (k : Nat) (p : Pt) (m : List Int), S = .int .i64 ((10 : Int) - (k : Int)) ∧ k ≤ 9 ∧ PopAt wr P l p ∧ BankAt wr B D m ∧ Kept [P, D] w wr ∧ popOKs l k p m ∧ popE l k ((10 : Int) - (k : Int)) p m = R) (fun S _ => 10 - (intOf S).toNat)
  case atStart => exact ⟨9, p, m, rfl, by omega, H.out, HB.out, Kept.refl _ _, HOK.out, HR.out⟩
  case round =>
    obtain ⟨k, p, m, rfl, hk, h, hb, hkw, ok, hR⟩ := hrel
    clear H HB HOK HR
    have H := hid h
    have HB := hid hb
    have HOK := hid ok
    have HR := hid hR
    have HK := hid hkw
    have HK0 := hid hk
    clear h hb hkw ok hR
    clear HK0
    cases k with
    | zero =>
      have hz : R = (0, p, m) := HR.out.symm
      subst hz
      clear HR HOK
      obtain ⟨nn, hnn⟩ : ∃ nn : Int, (10 : Int) - ((0 : Nat) : Int) = nn := ⟨_, rfl⟩
      rw [hnn]
      have hn0 : 10 ≤ nn := by omega
      go_wp2_with fail
      go_ret
      exact ⟨rfl, HK.out, H.out, HB.out⟩
    | succ k =>
      obtain ⟨nn, hnn⟩ : ∃ nn : Int, (10 : Int) - ((k + 1 : Nat) : Int) = nn := ⟨_, rfl⟩
      rw [hnn] at HR ⊢
      have hn0 : nn < 10 := by omega
      have hn1 : 0 ≤ nn := by omega
      have HN : Hid (nn + 1 = (10 : Int) - (k : Int)) := hid (by omega)
      have G := hid (pop_step P B D l p m wr H.out HB.out HPB.out HOK.out.1)
      obtain ⟨dn, hdn⟩ : ∃ dn : Bool, (popS l p m).1.done = dn := ⟨_, rfl⟩
      rw [hdn] at G
      have HDN := hid hdn
      clear hdn hnn H HB
      cases dn
      case true =>
        have hz : R = (nn, (popS l p m).1, (popS l p m).2) := by rw [← HR.out]; simp [popE, HDN.out]
        subst hz
        clear HR HOK
        go_wp2_with (go_at_call 27; refine G.out.mono ?_; clear G; rintro e w1 ⟨rfl, hk1, h1, hb1⟩; have F := hid (And.intro (HK.out.trans hk1) (And.intro h1 hb1)); clear hk1 h1 hb1 HK)
        go_ret
        exact ⟨rfl, F.out.1, F.out.2.1, F.out.2.2⟩
      case false =>
        have HR2 : Hid (popE l k (nn + 1) (popS l p m).1 (popS l p m).2 = R) := hid (by rw [← HR.out]; simp [popE, HDN.out])
        have HO2 : Hid (popOKs l k (popS l p m).1 (popS l p m).2) := hid (HOK.out.2 HDN.out)
        clear HR HOK
        go_wp2_with (go_at_call 27; refine G.out.mono ?_; clear G; rintro e w1 ⟨rfl, hk1, h1, hb1⟩; have F := hid (And.intro (HK.out.trans hk1) (And.intro h1 hb1)); clear hk1 h1 hb1 HK)
        go_roundw
        case rel => exact ⟨k, (popS l p m).1, (popS l p m).2, by rw [← HN.out], by omega, F.out.2.1, F.out.2.2, F.out.1, HO2.out, by rw [← HN.out]; exact HR2.out⟩
        case measure => simp [intOf]; omega
def stealE (l : Lay) : Nat → Int → Pt → Bool → List Int → Int × Pt × Bool × List Int
  | 0, n, p, s, m => (0, p, s, m)
  | k + 1, n, p, s, m => if (stealS l p s m).1.done = true then (n, (stealS l p s m).1, (stealS l p s m).2.1, (stealS l p s m).2.2) else stealE l k (n + 1) (stealS l p s m).1 (stealS l p s m).2.1 (stealS l p s m).2.2
def stealOKs (l : Lay) : Nat → Pt → Bool → List Int → Prop
  | 0, p, s, m => True
  | k + 1, p, s, m => StealOK l p m ∧ ((stealS l p s m).1.done = false → stealOKs l k (stealS l p s m).1 (stealS l p s m).2.1 (stealS l p s m).2.2)
set_option maxHeartbeats 2000000 in
set_option maxRecDepth 100000 in
theorem ends_steal (P B D : Nat) (l : Lay) (p : Pt) (s : Bool) (m : List Int) (R : Int × Pt × Bool × List Int) (w : World) (h : StealAt w P l p s) (hb : BankAt w B D m) (hPB : P ≠ B ∧ P ≠ D) (ok : stealOKs l 9 p s m) (hR : stealE l 9 1 p s m = R) :
    Calls Try.prog 73 #[.iface 75 (.pointer (some ⟨P, 0, none⟩)), .pointer (some ⟨B, 0, none⟩)] w fun e w' => e = .returned (.int .i64 R.1) ∧ Kept [P, D] w w' ∧ StealAt w' P l R.2.1 R.2.2.1 ∧ BankAt w' B D R.2.2.2 := by
  have H := hid h
  have HB := hid hb
  have HPB := hid hPB
  have HOK := hid ok
  have HR := hid hR
  clear h hb hPB ok hR
  go_enter Try.func73, Try.ntmps73
  go_wp2_with fail
  go_loopw [5] (fun S wr => ∃ (k : Nat) (p : Pt) (s : Bool) (m : List Int), S = .int .i64 ((10 : Int) - (k : Int)) ∧ k ≤ 9 ∧ StealAt wr P l p s ∧ BankAt wr B D m ∧ Kept [P, D] w wr ∧ stealOKs l k p s m ∧ stealE l k ((10 : Int) - (k : Int)) p s m = R) (fun S _ => 10 - (intOf S).toNat)
  case atStart => exact ⟨9, p, s, m, rfl, by omega, H.out, HB.out, Kept.refl _ _, HOK.out, HR.out⟩
  case round =>
    obtain ⟨k, p, s, m, rfl, hk, h, hb, hkw, ok, hR⟩ := hrel
    clear H HB HOK HR
    have H := hid h
    have HB := hid hb
    have HOK := hid ok
    have HR := hid hR
    have HK := hid hkw
    have HK0 := hid hk
    clear h hb hkw ok hR
    clear HK0
    cases k with
    | zero =>
      have hz : R = (0, p, s, m) := HR.out.symm
      subst hz
      clear HR HOK
      obtain ⟨nn, hnn⟩ : ∃ nn : Int, (10 : Int) - ((0 : Nat) : Int) = nn := ⟨_, rfl⟩
      rw [hnn]
      have hn0 : 10 ≤ nn := by omega
      go_wp2_with fail
      go_ret
      exact ⟨rfl, HK.out, H.out, HB.out⟩
    | succ k =>
      obtain ⟨nn, hnn⟩ : ∃ nn : Int, (10 : Int) - ((k + 1 : Nat) : Int) = nn := ⟨_, rfl⟩
      rw [hnn] at HR ⊢
      have hn0 : nn < 10 := by omega
      have hn1 : 0 ≤ nn := by omega
      have HN : Hid (nn + 1 = (10 : Int) - (k : Int)) := hid (by omega)
      have G := hid (steal_step P B D l p s m wr H.out HB.out HPB.out HOK.out.1)
      obtain ⟨dn, hdn⟩ : ∃ dn : Bool, (stealS l p s m).1.done = dn := ⟨_, rfl⟩
      rw [hdn] at G
      have HDN := hid hdn
      clear hdn hnn H HB
      cases dn
      case true =>
        have hz : R = (nn, (stealS l p s m).1, (stealS l p s m).2.1, (stealS l p s m).2.2) := by rw [← HR.out]; simp [stealE, HDN.out]
        subst hz
        clear HR HOK
        go_wp2_with (go_at_call 24; refine G.out.mono ?_; clear G; rintro e w1 ⟨rfl, hk1, h1, hb1⟩; have F := hid (And.intro (HK.out.trans hk1) (And.intro h1 hb1)); clear hk1 h1 hb1 HK)
        go_ret
        exact ⟨rfl, F.out.1, F.out.2.1, F.out.2.2⟩
      case false =>
        have HR2 : Hid (stealE l k (nn + 1) (stealS l p s m).1 (stealS l p s m).2.1 (stealS l p s m).2.2 = R) := hid (by rw [← HR.out]; simp [stealE, HDN.out])
        have HO2 : Hid (stealOKs l k (stealS l p s m).1 (stealS l p s m).2.1 (stealS l p s m).2.2) := hid (HOK.out.2 HDN.out)
        clear HR HOK
        go_wp2_with (go_at_call 24; refine G.out.mono ?_; clear G; rintro e w1 ⟨rfl, hk1, h1, hb1⟩; have F := hid (And.intro (HK.out.trans hk1) (And.intro h1 hb1)); clear hk1 h1 hb1 HK)
        go_roundw
        case rel => exact ⟨k, (stealS l p s m).1, (stealS l p s m).2.1, (stealS l p s m).2.2, by rw [← HN.out], by omega, F.out.2.1, F.out.2.2, F.out.1, HO2.out, by rw [← HN.out]; exact HR2.out⟩
        case measure => simp [intOf]; omega
def pushE (l : Lay) (v : Int) : Nat → Int → Pt → List Int → Int × Pt × List Int
  | 0, n, p, m => (0, p, m)
  | k + 1, n, p, m => if (pushS l p v m).1.done = true then (n, (pushS l p v m).1, (pushS l p v m).2) else pushE l v k (n + 1) (pushS l p v m).1 (pushS l p v m).2
def pushOKs (l : Lay) (v : Int) : Nat → Pt → List Int → Prop
  | 0, p, m => True
  | k + 1, p, m => PushOK l p m ∧ ((pushS l p v m).1.done = false → pushOKs l v k (pushS l p v m).1 (pushS l p v m).2)
set_option maxHeartbeats 2000000 in
set_option maxRecDepth 100000 in
theorem ends_push (P B D : Nat) (l : Lay) (v : Int) (p : Pt) (m : List Int) (R : Int × Pt × List Int) (w : World) (h : PushAt w P l p v) (hb : BankAt w B D m) (hPB : P ≠ B ∧ P ≠ D) (ok : pushOKs l v 9 p m) (hR : pushE l v 9 1 p m = R) :
    Calls Try.prog 73 #[.iface 73 (.pointer (some ⟨P, 0, none⟩)), .pointer (some ⟨B, 0, none⟩)] w fun e w' => e = .returned (.int .i64 R.1) ∧ Kept [P, D] w w' ∧ PushAt w' P l R.2.1 v ∧ BankAt w' B D R.2.2 := by
  have H := hid h
  have HB := hid hb
  have HPB := hid hPB
  have HOK := hid ok
  have HR := hid hR
  clear h hb hPB ok hR
  go_enter Try.func73, Try.ntmps73
  go_wp2_with fail
  go_loopw [5] (fun S wr => ∃ (k : Nat) (p : Pt) (m : List Int), S = .int .i64 ((10 : Int) - (k : Int)) ∧ k ≤ 9 ∧ PushAt wr P l p v ∧ BankAt wr B D m ∧ Kept [P, D] w wr ∧ pushOKs l v k p m ∧ pushE l v k ((10 : Int) - (k : Int)) p m = R) (fun S _ => 10 - (intOf S).toNat)
  case atStart => exact ⟨9, p, m, rfl, by omega, H.out, HB.out, Kept.refl _ _, HOK.out, HR.out⟩
  case round =>
    obtain ⟨k, p, m, rfl, hk, h, hb, hkw, ok, hR⟩ := hrel
    clear H HB HOK HR
    have H := hid h
    have HB := hid hb
    have HOK := hid ok
    have HR := hid hR
    have HK := hid hkw
    have HK0 := hid hk
    clear h hb hkw ok hR
    clear HK0
    cases k with
    | zero =>
      have hz : R = (0, p, m) := HR.out.symm
      subst hz
      clear HR HOK
      obtain ⟨nn, hnn⟩ : ∃ nn : Int, (10 : Int) - ((0 : Nat) : Int) = nn := ⟨_, rfl⟩
      rw [hnn]
      have hn0 : 10 ≤ nn := by omega
      go_wp2_with fail
      go_ret
      exact ⟨rfl, HK.out, H.out, HB.out⟩
    | succ k =>
      obtain ⟨nn, hnn⟩ : ∃ nn : Int, (10 : Int) - ((k + 1 : Nat) : Int) = nn := ⟨_, rfl⟩
      rw [hnn] at HR ⊢
      have hn0 : nn < 10 := by omega
      have hn1 : 0 ≤ nn := by omega
      have HN : Hid (nn + 1 = (10 : Int) - (k : Int)) := hid (by omega)
      have G := hid (push_step P B D l p v m wr H.out HB.out HPB.out HOK.out.1)
      obtain ⟨dn, hdn⟩ : ∃ dn : Bool, (pushS l p v m).1.done = dn := ⟨_, rfl⟩
      rw [hdn] at G
      have HDN := hid hdn
      clear hdn hnn H HB
      cases dn
      case true =>
        have hz : R = (nn, (pushS l p v m).1, (pushS l p v m).2) := by rw [← HR.out]; simp [pushE, HDN.out]
        subst hz
        clear HR HOK
        go_wp2_with (go_at_call 72; refine G.out.mono ?_; clear G; rintro e w1 ⟨rfl, hk1, h1, hb1⟩; have F := hid (And.intro (HK.out.trans hk1) (And.intro h1 hb1)); clear hk1 h1 hb1 HK)
        go_ret
        exact ⟨rfl, F.out.1, F.out.2.1, F.out.2.2⟩
      case false =>
        have HR2 : Hid (pushE l v k (nn + 1) (pushS l p v m).1 (pushS l p v m).2 = R) := hid (by rw [← HR.out]; simp [pushE, HDN.out])
        have HO2 : Hid (pushOKs l v k (pushS l p v m).1 (pushS l p v m).2) := hid (HOK.out.2 HDN.out)
        clear HR HOK
        go_wp2_with (go_at_call 72; refine G.out.mono ?_; clear G; rintro e w1 ⟨rfl, hk1, h1, hb1⟩; have F := hid (And.intro (HK.out.trans hk1) (And.intro h1 hb1)); clear hk1 h1 hb1 HK)
        go_roundw
        case rel => exact ⟨k, (pushS l p v m).1, (pushS l p v m).2, by rw [← HN.out], by omega, F.out.2.1, F.out.2.2, F.out.1, HO2.out, by rw [← HN.out]; exact HR2.out⟩
        case measure => simp [intOf]; omega
end Go.Proofs.Ytlbhckndejldcaa
