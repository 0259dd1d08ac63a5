/- A barrier machine's step upon a bank of which the barrier's two cells are told. -/
import Derived.Test.YtklkopoelhndoaaBarr2
namespace Go.Proofs.Ytklkopoelhndoaa
open Go.RowKit
set_option linter.unusedVariables false
/-- cells of which the barrier's are c and s -/
def gs (m : List Int) (c s : Int) : List Int := st (st m 9 c) 10 s
theorem gs_length (m : List Int) (c s : Int) : (gs m c s).length = m.length := by simp [gs, st_length]
theorem gs_ld9 {m : List Int} (h : 11 ≤ m.length) (c s : Int) : ld (gs m c s) 9 = c := by
  rw [gs, ld_st_other (by omega), ld_st_same (by omega) (by omega)]
theorem gs_ld10 {m : List Int} (h : 11 ≤ m.length) (c s : Int) : ld (gs m c s) 10 = s := by
  rw [gs, ld_st_same (by omega) (by rw [st_length]; omega)]
theorem gs_st9 {m : List Int} (h : 11 ≤ m.length) (c s v : Int) : st (gs m c s) 9 v = gs m v s := by
  refine ext_ld (by simp [gs_length, st_length]) (fun i _ => ?_)
  by_cases e : (9 : Int) = i
  · rw [← e, ld_st_same (by omega) (by rw [gs_length]; omega), gs_ld9 h]
  · rw [ld_st_other e]
    by_cases e2 : (10 : Int) = i
    · rw [← e2, gs_ld10 h, gs_ld10 h]
    · rw [gs, ld_st_other e2, ld_st_other e, gs, ld_st_other e2, ld_st_other e]
theorem gs_st10 {m : List Int} (h : 11 ≤ m.length) (c s v : Int) : st (gs m c s) 10 v = gs m c v := by
  refine ext_ld (by simp [gs_length, st_length]) (fun i _ => ?_)
  by_cases e : (10 : Int) = i
  · rw [← e, ld_st_same (by omega) (by rw [gs_length]; omega), gs_ld10 h]
  · rw [ld_st_other e, gs, ld_st_other e, gs, ld_st_other e]
theorem gs_other {m : List Int} (c s : Int) {i v : Int} (h9 : i ≠ 9) (h10 : i ≠ 10) : st (gs m c s) i v = gs (st m i v) c s := by
  refine ext_ld (by simp [gs_length, st_length]) (fun j hj => ?_)
  rw [st_length, gs_length] at hj
  by_cases e10 : (10 : Int) = j
  · rw [← e10, ld_st_other h10, gs, ld_st_same (by omega) (by rw [st_length]; omega), gs, ld_st_same (by omega) (by rw [st_length, st_length]; omega)]
  · by_cases e9 : (9 : Int) = j
    · rw [← e9, ld_st_other h9, gs, ld_st_other (by omega), ld_st_same (by omega) (by omega), gs, ld_st_other (by omega), ld_st_same (by omega) (by rw [st_length]; omega)]
    · by_cases e : i = j
      · rw [← e]
        by_cases hi : 0 ≤ i ∧ i < m.length
        · rw [ld_st_same hi.1 (by rw [gs_length]; exact hi.2), gs, ld_st_other (by omega), ld_st_other (by omega), ld_st_same hi.1 hi.2]
        · omega
      · rw [ld_st_other e, gs, ld_st_other e10, ld_st_other e9, gs, ld_st_other e10, ld_st_other e9, ld_st_other e]
/-- N cells, of which the barrier's are c and s -/
def bs (N : Nat) (c s : Int) : List Int := gs (List.replicate N 0) c s
theorem bs_length (N : Nat) (c s : Int) : (bs N c s).length = N := by simp [bs, gs_length]
structure L14 (l : Lay) (N : Nat) (n : Int) : Prop where
  count : l.count = 9
  sense : l.sense = 10
  workers : l.workers = n
  size : l.size = (N : Int)
  big : 11 ≤ N
theorem l14 (n : Int) (h0 : 1 ≤ n) : L14 (l21 n) (11 + n * 4).toNat n := ⟨rfl, rfl, rfl, by show 11 + n * 4 = _; omega, by omega⟩
theorem rdy14 {l : Lay} {N : Nat} {n : Int} (h : L14 l N n) : rdy l = bs N n 0 := by
  rw [rdy, h.count, h.sense, h.workers, h.size]; rfl
theorem g101_0 (m : List Int) (P B D N : Nat) (l : Lay) (n c s own own' : Int) (last : Bool) (hl : L14 l N n) (hm : m.length = N) (ho : (if s = 0 then 1 else 0) = own') (w : World) (h : ArrAt w P l 0 own last) (hb : BankAt w B D (gs m c s)) (hPB : P ≠ B ∧ P ≠ D) :
    Calls Try.prog 54 #[.pointer (some ⟨P, 0, none⟩), .pointer (some ⟨B, 0, none⟩)] w fun e w' => e = .returned (.bool false) ∧ Kept [P, D] w w' ∧ ArrAt w' P l 1 own' last ∧ BankAt w' B D (gs m c s) := by
  have := c101_0 P B D l (gs m c s) own last w h hb hPB
  have e : lookOwn l (gs m c s) = own' := by rw [lookOwn, hl.sense, gs_ld10 (by rw [hm]; exact hl.big)]; exact ho
  rwa [e] at this
theorem g101_1 (m : List Int) (P B D N : Nat) (l : Lay) (n c c' s own : Int) (last r : Bool) (hl : L14 l N n) (hm : m.length = N) (hc : wrap64 (c + -1) = c') (hr : (c' == 0) = r) (w : World) (h : ArrAt w P l 1 own last) (hb : BankAt w B D (gs m c s)) (hPB : P ≠ B ∧ P ≠ D) :
    Calls Try.prog 54 #[.pointer (some ⟨P, 0, none⟩), .pointer (some ⟨B, 0, none⟩)] w fun e w' => e = .returned (.bool false) ∧ Kept [P, D] w w' ∧ ArrAt w' P l (if r then 2 else 4) own r ∧ BankAt w' B D (gs m c' s) := by
  have ha : adds (gs m c s) l.count (-1) = c' := by rw [adds, hl.count, if_pos (by rw [gs_length]; have := hl.big; omega), gs_ld9 (by rw [hm]; exact hl.big), hc]
  have := c101_1 P B D l (gs m c s) own last r (by rw [ha]; exact hr) w h hb hPB
  rwa [hl.count, gs_ld9 (by rw [hm]; exact hl.big), hc, gs_st9 (by rw [hm]; exact hl.big)] at this
theorem g101_2 (m : List Int) (P B D N : Nat) (l : Lay) (n c s own : Int) (last : Bool) (hl : L14 l N n) (hm : m.length = N) (w : World) (h : ArrAt w P l 2 own last) (hb : BankAt w B D (gs m c s)) (hPB : P ≠ B ∧ P ≠ D) :
    Calls Try.prog 54 #[.pointer (some ⟨P, 0, none⟩), .pointer (some ⟨B, 0, none⟩)] w fun e w' => e = .returned (.bool false) ∧ Kept [P, D] w w' ∧ ArrAt w' P l 3 own last ∧ BankAt w' B D (gs m n s) := by
  have := c101_2 P B D l (gs m c s) own last w h hb hPB
  rwa [hl.count, hl.workers, gs_st9 (by rw [hm]; exact hl.big)] at this
theorem g101_3 (m : List Int) (P B D N : Nat) (l : Lay) (n c s own : Int) (last : Bool) (hl : L14 l N n) (hm : m.length = N) (w : World) (h : ArrAt w P l 3 own last) (hb : BankAt w B D (gs m c s)) (hPB : P ≠ B ∧ P ≠ D) :
    Calls Try.prog 54 #[.pointer (some ⟨P, 0, none⟩), .pointer (some ⟨B, 0, none⟩)] w fun e w' => e = .returned (.bool true) ∧ Kept [P, D] w w' ∧ ArrAt w' P l 5 own last ∧ BankAt w' B D (gs m c own) := by
  have := c101_3 P B D l (gs m c s) own last w h hb hPB
  rwa [hl.sense, gs_st10 (by rw [hm]; exact hl.big)] at this
theorem g101_4 (m : List Int) (P B D N : Nat) (l : Lay) (n c s own : Int) (last r : Bool) (hl : L14 l N n) (hm : m.length = N) (hr : (s == own) = r) (w : World) (h : ArrAt w P l 4 own last) (hb : BankAt w B D (gs m c s)) (hPB : P ≠ B ∧ P ≠ D) :
    Calls Try.prog 54 #[.pointer (some ⟨P, 0, none⟩), .pointer (some ⟨B, 0, none⟩)] w fun e w' => e = .returned (.bool r) ∧ Kept [P, D] w w' ∧ ArrAt w' P l (if r then 5 else 4) own last ∧ BankAt w' B D (gs m c s) :=
  c101_4 P B D l (gs m c s) own last r (by rw [hl.sense, gs_ld10 (by rw [hm]; exact hl.big)]; exact hr) w h hb hPB
theorem g42_9 (m : List Int) (B D N : Nat) (l : Lay) (n c s : Int) (hl : L14 l N n) (hm : m.length = N) (w : World) (hb : BankAt w B D (gs m c s)) :
    Calls Try.prog 26 #[.pointer (some ⟨B, 0, none⟩), .int .i64 l.count] w fun e w' => e = .returned (.int .i64 c) ∧ w = w' := by
  have := c42 B D (gs m c s) l.count w hb
  rwa [show ld (gs m c s) l.count = c by rw [hl.count, gs_ld9 (by rw [hm]; exact hl.big)]] at this
theorem g42_10 (m : List Int) (B D N : Nat) (l : Lay) (n c s : Int) (hl : L14 l N n) (hm : m.length = N) (w : World) (hb : BankAt w B D (gs m c s)) :
    Calls Try.prog 26 #[.pointer (some ⟨B, 0, none⟩), .int .i64 l.sense] w fun e w' => e = .returned (.int .i64 s) ∧ w = w' := by
  have := c42 B D (gs m c s) l.sense w hb
  rwa [show ld (gs m c s) l.sense = s by rw [hl.sense, gs_ld10 (by rw [hm]; exact hl.big)]] at this
theorem b101_0 (P B D N : Nat) (l : Lay) (n c s own own' : Int) (last : Bool) (hl : L14 l N n) (ho : (if s = 0 then 1 else 0) = own') (w : World) (h : ArrAt w P l 0 own last) (hb : BankAt w B D (bs N c s)) (hPB : P ≠ B ∧ P ≠ D) :
    Calls Try.prog 54 #[.pointer (some ⟨P, 0, none⟩), .pointer (some ⟨B, 0, none⟩)] w fun e w' => e = .returned (.bool false) ∧ Kept [P, D] w w' ∧ ArrAt w' P l 1 own' last ∧ BankAt w' B D (bs N c s) :=
  g101_0 (List.replicate N 0) P B D N l n c s own own' last hl (by simp) ho w h hb hPB
theorem b101_1 (P B D N : Nat) (l : Lay) (n c c' s own : Int) (last r : Bool) (hl : L14 l N n) (hc : wrap64 (c + -1) = c') (hr : (c' == 0) = r) (w : World) (h : ArrAt w P l 1 own last) (hb : BankAt w B D (bs N c s)) (hPB : P ≠ B ∧ P ≠ D) :
    Calls Try.prog 54 #[.pointer (some ⟨P, 0, none⟩), .pointer (some ⟨B, 0, none⟩)] w fun e w' => e = .returned (.bool false) ∧ Kept [P, D] w w' ∧ ArrAt w' P l (if r then 2 else 4) own r ∧ BankAt w' B D (bs N c' s) :=
  g101_1 (List.replicate N 0) P B D N l n c c' s own last r hl (by simp) hc hr w h hb hPB
theorem b101_2 (P B D N : Nat) (l : Lay) (n c s own : Int) (last : Bool) (hl : L14 l N n) (w : World) (h : ArrAt w P l 2 own last) (hb : BankAt w B D (bs N c s)) (hPB : P ≠ B ∧ P ≠ D) :
    Calls Try.prog 54 #[.pointer (some ⟨P, 0, none⟩), .pointer (some ⟨B, 0, none⟩)] w fun e w' => e = .returned (.bool false) ∧ Kept [P, D] w w' ∧ ArrAt w' P l 3 own last ∧ BankAt w' B D (bs N n s) :=
  g101_2 (List.replicate N 0) P B D N l n c s own last hl (by simp) w h hb hPB
theorem b101_3 (P B D N : Nat) (l : Lay) (n c s own : Int) (last : Bool) (hl : L14 l N n) (w : World) (h : ArrAt w P l 3 own last) (hb : BankAt w B D (bs N c s)) (hPB : P ≠ B ∧ P ≠ D) :
    Calls Try.prog 54 #[.pointer (some ⟨P, 0, none⟩), .pointer (some ⟨B, 0, none⟩)] w fun e w' => e = .returned (.bool true) ∧ Kept [P, D] w w' ∧ ArrAt w' P l 5 own last ∧ BankAt w' B D (bs N c own) :=
  g101_3 (List.replicate N 0) P B D N l n c s own last hl (by simp) w h hb hPB
theorem b101_4 (P B D N : Nat) (l : Lay) (n c s own : Int) (last r : Bool) (hl : L14 l N n) (hr : (s == own) = r) (w : World) (h : ArrAt w P l 4 own last) (hb : BankAt w B D (bs N c s)) (hPB : P ≠ B ∧ P ≠ D) :
    Calls Try.prog 54 #[.pointer (some ⟨P, 0, none⟩), .pointer (some ⟨B, 0, none⟩)] w fun e w' => e = .returned (.bool r) ∧ Kept [P, D] w w' ∧ ArrAt w' P l (if r then 5 else 4) own last ∧ BankAt w' B D (bs N c s) :=
  g101_4 (List.replicate N 0) P B D N l n c s own last r hl (by simp) hr w h hb hPB
theorem b42_9 (B D N : Nat) (l : Lay) (n c s : Int) (hl : L14 l N n) (w : World) (hb : BankAt w B D (bs N c s)) :
    Calls Try.prog 26 #[.pointer (some ⟨B, 0, none⟩), .int .i64 l.count] w fun e w' => e = .returned (.int .i64 c) ∧ w = w' :=
  g42_9 (List.replicate N 0) B D N l n c s hl (by simp) w hb
theorem b42_10 (B D N : Nat) (l : Lay) (n c s : Int) (hl : L14 l N n) (w : World) (hb : BankAt w B D (bs N c s)) :
    Calls Try.prog 26 #[.pointer (some ⟨B, 0, none⟩), .int .i64 l.sense] w fun e w' => e = .returned (.int .i64 s) ∧ w = w' :=
  g42_10 (List.replicate N 0) B D N l n c s hl (by simp) w hb
end Go.Proofs.Ytklkopoelhndoaa
