/- A barrier machine that stands anywhere in a block (an element of a slice): its stages, its step. -/
import Derived.Test.YtklkopoelhndoaaBarr3
namespace Go.Proofs.Ytklkopoelhndoaa
open Go.RowKit
attribute [local go_sem ↓] Go.wp_at_zero Go.wp_at_succ
set_option linter.unusedVariables false
/-- from place o on the cells are a machine's -/
def MC (c : Array Value) (o : Nat) (l : Lay) (nx own : Int) (last : Bool) : Prop := ∀ j, j < 17 → c[o + j]? = (arrCells l nx own last)[j]?
def BlkAt (w : World) (P : Nat) (c : Array Value) : Prop := w.heap[P]? = some (.cells c 95 (0, 0))
theorem MC.f2 {c : Array Value} {o : Nat} {l : Lay} {nx own : Int} {last : Bool} (h : MC c o l nx own last) : c[o + 2]? = some (.int .i64 l.workers) := h 2 (by omega)
theorem MC.f10 {c : Array Value} {o : Nat} {l : Lay} {nx own : Int} {last : Bool} (h : MC c o l nx own last) : c[o + 10]? = some (.int .i64 l.count) := h 10 (by omega)
theorem MC.f11 {c : Array Value} {o : Nat} {l : Lay} {nx own : Int} {last : Bool} (h : MC c o l nx own last) : c[o + 11]? = some (.int .i64 l.sense) := h 11 (by omega)
theorem MC.f14 {c : Array Value} {o : Nat} {l : Lay} {nx own : Int} {last : Bool} (h : MC c o l nx own last) : c[o + 14]? = some (.int .u8 nx) := h 14 (by omega)
theorem MC.f15 {c : Array Value} {o : Nat} {l : Lay} {nx own : Int} {last : Bool} (h : MC c o l nx own last) : c[o + 15]? = some (.int .i64 own) := h 15 (by omega)
theorem MC.f16 {c : Array Value} {o : Nat} {l : Lay} {nx own : Int} {last : Bool} (h : MC c o l nx own last) : c[o + 16]? = some (.bool last) := h 16 (by omega)
theorem MC.lt {c : Array Value} {o : Nat} {l : Lay} {nx own : Int} {last : Bool} (h : MC c o l nx own last) : o + 16 < c.size := (Array.getElem?_eq_some_iff.1 h.f16).1
theorem MC.set {c : Array Value} {o : Nat} {l : Lay} {nx own nx' own' : Int} {last last' : Bool} (h : MC c o l nx own last) (k : Nat) (v : Value) (hk : k < 17) (hv : (arrCells l nx' own' last')[k]? = some v)
    (ho : ∀ j, j < 17 → j ≠ k → (arrCells l nx own last)[j]? = (arrCells l nx' own' last')[j]?) : MC (c.setIfInBounds (o + k) v) o l nx' own' last' := by
  intro j hj
  by_cases e : j = k
  · subst e
    rw [Array.getElem?_setIfInBounds_self_of_lt (by have := h.lt; omega), hv]
  · rw [Array.getElem?_setIfInBounds_ne (by omega), h j hj, ho j hj e]
theorem MC.set14 {c : Array Value} {o : Nat} {l : Lay} {nx own : Int} {last : Bool} (h : MC c o l nx own last) (v : Int) : MC (c.setIfInBounds (o + 14) (.int .u8 v)) o l v own last :=
  h.set 14 _ (by omega) rfl (fun j hj hne => by
    match j, hj, hne with
    | 0, _, _ | 1, _, _ | 2, _, _ | 3, _, _ | 4, _, _ | 5, _, _ | 6, _, _ | 7, _, _ | 8, _, _ | 9, _, _ | 10, _, _ | 11, _, _ | 12, _, _ | 13, _, _ | 15, _, _ | 16, _, _ => rfl
    | 14, _, h => exact absurd rfl h
    | j + 17, hj, _ => omega)
theorem MC.set15 {c : Array Value} {o : Nat} {l : Lay} {nx own : Int} {last : Bool} (h : MC c o l nx own last) (v : Int) : MC (c.setIfInBounds (o + 15) (.int .i64 v)) o l nx v last :=
  h.set 15 _ (by omega) rfl (fun j hj hne => by
    match j, hj, hne with
    | 0, _, _ | 1, _, _ | 2, _, _ | 3, _, _ | 4, _, _ | 5, _, _ | 6, _, _ | 7, _, _ | 8, _, _ | 9, _, _ | 10, _, _ | 11, _, _ | 12, _, _ | 13, _, _ | 14, _, _ | 16, _, _ => rfl
    | 15, _, h => exact absurd rfl h
    | j + 17, hj, _ => omega)
theorem MC.set16 {c : Array Value} {o : Nat} {l : Lay} {nx own : Int} {last : Bool} (h : MC c o l nx own last) (v : Bool) : MC (c.setIfInBounds (o + 16) (.bool v)) o l nx own v :=
  h.set 16 _ (by omega) rfl (fun j hj hne => by
    match j, hj, hne with
    | 0, _, _ | 1, _, _ | 2, _, _ | 3, _, _ | 4, _, _ | 5, _, _ | 6, _, _ | 7, _, _ | 8, _, _ | 9, _, _ | 10, _, _ | 11, _, _ | 12, _, _ | 13, _, _ | 14, _, _ | 15, _, _ => rfl
    | 16, _, h => exact absurd rfl h
    | j + 17, hj, _ => omega)
/-- c' is c but for a machine's cells -/
def Beside (c c' : Array Value) (o : Nat) : Prop := c'.size = c.size ∧ ∀ j, (j < o ∨ o + 17 ≤ j) → c'[j]? = c[j]?
theorem Beside.refl (c : Array Value) (o : Nat) : Beside c c o := ⟨rfl, fun _ _ => rfl⟩
theorem Beside.set {c c' : Array Value} {o : Nat} (h : Beside c c' o) (k : Nat) (v : Value) (hk : k < 17) : Beside c (c'.setIfInBounds (o + k) v) o :=
  ⟨by rw [Array.size_setIfInBounds]; exact h.1, fun j hj => by rw [Array.getElem?_setIfInBounds_ne (by omega)]; exact h.2 j hj⟩
/-- what a machine's doing leaves in its block -/
def MPost (w w' : World) (P o : Nat) (c : Array Value) (l : Lay) (nx own : Int) (last : Bool) : Prop := ∃ c', BlkAt w' P c' ∧ MC c' o l nx own last ∧ Beside c c' o
set_option maxHeartbeats 1000000 in
set_option maxRecDepth 100000 in
theorem o154 (P o B D : Nat) (c : Array Value) (l : Lay) (m : List Int) (nx own : Int) (last : Bool) (w : World) (h : BlkAt w P c) (hm : MC c o l nx own last) (hb : BankAt w B D m) (hPB : P ≠ B ∧ P ≠ D) :
    Calls Try.prog 76 #[.pointer (some ⟨P, o, none⟩), .pointer (some ⟨B, 0, none⟩)] w fun e w' => e = .returned (.int .u8 1) ∧ Kept [P] w w' ∧ MPost w w' P o c l nx (lookOwn l m) last := by
  have hc := cells_of h
  have hz := free_of h
  have g15 := hm.f15
  have hs : BlkAt (w.setCell ⟨P, o + 15, none⟩ (.int .i64 1)) P (c.setIfInBounds (o + 15) (.int .i64 1)) := set_of h (o + 15) (.int .i64 1)
  have HS := hid hs
  have HM := hid (hm.set15 1)
  have ks : Kept [P] w (w.setCell ⟨P, o + 15, none⟩ (.int .i64 1)) := (Kept.refl _ _).setCell (.inl (by simp)) _
  have HB := hid (hb.keep ks (by simpa using Ne.symm hPB.1) (by simpa using Ne.symm hPB.2))
  have KS := hid ks
  have HBS := hid ((Beside.refl c o).set 15 (.int .i64 1) (by omega))
  clear h hb hPB hs ks hm
  have hc1 := cells_of HS.out
  have hz1 := free_of HS.out
  have g11 := HM.out.f11
  have g15b := HM.out.f15
  by_cases hz0 : ld m l.sense = 0
  · have hb0 : (ld m l.sense != 0) = false := by simp [hz0]
    have HZ := hid hz0
    clear hz0
    go_enter Try.func76, Try.ntmps76
    go_wp2_with fail
    refine (c42 B D m l.sense _ HB.out).mono ?_
    rintro e w1 ⟨rfl, rfl⟩
    go_wp2_with fail
    go_ret
    exact ⟨rfl, KS.out, _, HS.out, by rw [lookOwn, if_pos HZ.out]; exact HM.out, HBS.out⟩
  · have hb0 : (ld m l.sense != 0) = true := by simp [hz0]
    have HZ := hid hz0
    clear hz0
    go_enter Try.func76, Try.ntmps76
    go_wp2_with fail
    refine (c42 B D m l.sense _ HB.out).mono ?_
    rintro e w1 ⟨rfl, rfl⟩
    go_wp2_with fail
    go_ret
    exact ⟨rfl, KS.out.setCell (.inl (by simp)) _, _, set_of HS.out (o + 15) (.int .i64 0), by rw [lookOwn, if_neg HZ.out]; exact HM.out.set15 0, HBS.out.set 15 _ (by omega)⟩
set_option maxHeartbeats 1000000 in
set_option maxRecDepth 100000 in
theorem o155 (P o B D : Nat) (c : Array Value) (l : Lay) (m : List Int) (nx own : Int) (last r : Bool) (hr : (adds m l.count (-1) == 0) = r) (w : World) (h : BlkAt w P c) (hm : MC c o l nx own last) (hb : BankAt w B D m) (hPB : P ≠ B ∧ P ≠ D) :
    Calls Try.prog 77 #[.pointer (some ⟨P, o, none⟩), .pointer (some ⟨B, 0, none⟩)] w fun e w' => e = .returned (.int .u8 (if r then 2 else 4)) ∧ Kept [P, D] w w' ∧ MPost w w' P o c l nx own r ∧ BankAt w' B D (st m l.count (wrap64 (ld m l.count + -1))) := by
  have hc := cells_of h
  have g10 := hm.f10
  have H := hid h
  have HM := hid hm
  have HB := hid hb
  have HPB := hid hPB
  clear h hb hPB hm
  go_enter Try.func77, Try.ntmps77
  go_wp2_with fail
  refine (c45 B D m l.count (-1) _ HB.out).mono ?_
  rintro e w1 ⟨rfl, hk, hb⟩
  have h2 : BlkAt w1 P c := hk.get H.out (by simpa using HPB.out.2)
  have H2 := hid h2
  have HK := hid hk
  have HB2 := hid hb
  clear hc hk hb g10
  have hc := cells_of h2
  have hz := free_of h2
  have g16 := HM.out.f16
  have hs : BlkAt (w1.setCell ⟨P, o + 16, none⟩ (.bool r)) P (c.setIfInBounds (o + 16) (.bool r)) := set_of h2 (o + 16) (.bool r)
  have HS := hid hs
  have HM2 := hid (HM.out.set16 r)
  have hc1 := cells_of HS.out
  have g16b := HM2.out.f16
  clear h2 hs
  cases r
  all_goals
    go_wp2_with fail
    go_ret
    exact ⟨rfl, (HK.out.mono (by simp)).setCell (.inl (by simp)) _, ⟨_, HS.out, HM2.out, (Beside.refl c o).set 16 _ (by omega)⟩, HB2.out.keep (L := [P]) ((Kept.refl _ _).setCell (.inl (by simp)) _) (by simpa using Ne.symm HPB.out.1) (by simpa using Ne.symm HPB.out.2)⟩
set_option maxHeartbeats 1000000 in
set_option maxRecDepth 100000 in
theorem o156 (P o B D : Nat) (c : Array Value) (l : Lay) (m : List Int) (nx own : Int) (last : Bool) (w : World) (h : BlkAt w P c) (hm : MC c o l nx own last) (hb : BankAt w B D m) (hPD : P ≠ D) :
    Calls Try.prog 78 #[.pointer (some ⟨P, o, none⟩), .pointer (some ⟨B, 0, none⟩)] w fun e w' => e = .returned (.int .u8 3) ∧ Kept [D] w w' ∧ BankAt w' B D (st m l.count l.workers) := by
  have hc := cells_of h
  have ga := hm.f10
  have gb := hm.f2
  have HB := hid hb
  have H := hid h
  have HPD := hid hPD
  clear h hb hPD hm
  go_enter Try.func78, Try.ntmps78
  go_wp2_with fail
  go_region_held3 (fun w' => ∀ i, w'.cell? ⟨P, i, none⟩ = c[i]?) (first | exact hc | exact hc1)
    (first | (go_at_call 48; refine (c43 B D m l.count l.workers _ (HB.out.keep (Kept.refl [] _).drew (by simp) (by simp))).mono ?_; rintro e y1 ⟨rfl, hk, hb⟩; have hc1 := cells_of (hk.get ((Kept.refl [] _).drew.get H.out (by simp)) (by simpa using HPD.out))))
  have HK := hid hk
  have HB2 := hid hb
  clear hk hb hc hc1
  go_wp2_with fail
  go_ret
  exact ⟨rfl, (Kept.refl [D] w).drew.trans HK.out, HB2.out⟩
set_option maxHeartbeats 1000000 in
set_option maxRecDepth 100000 in
theorem o157 (P o B D : Nat) (c : Array Value) (l : Lay) (m : List Int) (nx own : Int) (last : Bool) (w : World) (h : BlkAt w P c) (hm : MC c o l nx own last) (hb : BankAt w B D m) (hPD : P ≠ D) :
    Calls Try.prog 79 #[.pointer (some ⟨P, o, none⟩), .pointer (some ⟨B, 0, none⟩)] w fun e w' => e = .returned (.int .u8 5) ∧ Kept [D] w w' ∧ BankAt w' B D (st m l.sense own) := by
  have hc := cells_of h
  have ga := hm.f11
  have gb := hm.f15
  have HB := hid hb
  have H := hid h
  have HPD := hid hPD
  clear h hb hPD hm
  go_enter Try.func79, Try.ntmps79
  go_wp2_with fail
  go_region_held3 (fun w' => ∀ i, w'.cell? ⟨P, i, none⟩ = c[i]?) (first | exact hc | exact hc1)
    (first | (go_at_call 48; refine (c43 B D m l.sense own _ (HB.out.keep (Kept.refl [] _).drew (by simp) (by simp))).mono ?_; rintro e y1 ⟨rfl, hk, hb⟩; have hc1 := cells_of (hk.get ((Kept.refl [] _).drew.get H.out (by simp)) (by simpa using HPD.out))))
  have HK := hid hk
  have HB2 := hid hb
  clear hk hb hc hc1
  go_wp2_with fail
  go_ret
  exact ⟨rfl, (Kept.refl [D] w).drew.trans HK.out, HB2.out⟩
set_option maxHeartbeats 1000000 in
set_option maxRecDepth 100000 in
theorem o158 (P o B D : Nat) (c : Array Value) (l : Lay) (m : List Int) (nx own : Int) (last r : Bool) (hr : (ld m l.sense == own) = r) (w : World) (h : BlkAt w P c) (hm : MC c o l nx own last) (hb : BankAt w B D m) :
    Calls Try.prog 80 #[.pointer (some ⟨P, o, none⟩), .pointer (some ⟨B, 0, none⟩)] w fun e w' => e = .returned (.int .u8 (if r then 5 else 4)) ∧ Kept [] w w' := by
  have hc := cells_of h
  have ga := hm.f11
  have gb := hm.f15
  have HB := hid hb
  clear h hb hm
  have HR := hid hr
  clear hr
  go_enter Try.func80, Try.ntmps80
  go_wp2_with fail
  go_region_held3 (fun w' => ∀ i, w'.cell? ⟨P, i, none⟩ = c[i]?) (first | exact hc)
    (first | (go_at_call 26; refine (c42 B D m l.sense _ (HB.out.keep (Kept.refl [] _).drew (by simp) (by simp))).mono ?_; rintro e y1 ⟨rfl, rfl⟩))
  have hr := HR.out
  clear hc
  cases r
  all_goals
    go_wp2_with fail
    go_ret
    exact ⟨rfl, (Kept.refl [] w).drew⟩
set_option maxHeartbeats 1000000 in
set_option maxRecDepth 100000 in
theorem o102 (P o : Nat) (c : Array Value) (l : Lay) (nx own : Int) (last : Bool) (w : World) (h : BlkAt w P c) (hm : MC c o l nx own last) :
    Calls Try.prog 55 #[.pointer (some ⟨P, o, none⟩)] w fun e w' => e = .returned (.bool last) ∧ w = w' := by
  have hc := cells_of h
  have ga := hm.f16
  clear h hm
  go_enter Try.func55, Try.ntmps55
  go_wp2_with fail
  go_ret
  exact ⟨rfl, rfl⟩
set_option maxHeartbeats 1000000 in
set_option maxRecDepth 100000 in
theorem o101_5 (P o B : Nat) (c : Array Value) (l : Lay) (own : Int) (last : Bool) (w : World) (h : BlkAt w P c) (hm : MC c o l 5 own last) :
    Calls Try.prog 54 #[.pointer (some ⟨P, o, none⟩), .pointer (some ⟨B, 0, none⟩)] w fun e w' => e = .returned (.bool true) ∧ w = w' := by
  have hc := cells_of h
  have ga := hm.f14
  clear h hm
  go_enter Try.func54, Try.ntmps54
  go_wp2_with fail
  go_ret
  exact ⟨rfl, rfl⟩
end Go.Proofs.Ytklkopoelhndoaa
