/- The deque's machines as plain steps; and that the program's take them. -/
import Derived.Test.YtlbhckndejldcaaDTell
import Derived.Test.YtlbhckndejldcaaDN1
import Derived.Test.YtlbhckndejldcaaDStep
namespace Go.Proofs.Ytlbhckndejldcaa
open Go.RowKit
set_option linter.unusedVariables false
def popS (l : Lay) (p : Pt) (m : List Int) : Pt × List Int :=
  if p.done = true then (p, m)
  else if p.at_ = 0 then ({ p with at_ := 1, b := ld m (bot l p.w) - 1 }, m)
  else if p.at_ = 1 then ({ p with at_ := 2 }, st m (bot l p.w) p.b)
  else if p.at_ = 2 then ({ p with at_ := 3, t := ld m (l.top p.w) }, m)
  else if p.at_ = 3 then
    if p.b < p.t then ({ p with at_ := 4, done := true }, st m (bot l p.w) (p.b + 1))
    else if p.t < p.b then ({ p with at_ := 4, x := ld m (l.slot p.w p.b), done := true, got := true }, m)
    else ({ p with at_ := 4, x := ld m (l.slot p.w p.b) }, m)
  else if p.at_ = 4 then ({ p with at_ := 5, got := hits m (l.top p.w) p.t }, casB m (l.top p.w) p.t (hits m (l.top p.w) p.t))
  else ({ p with at_ := 6, done := true }, st m (bot l p.w) (p.b + 1))
def stealS (l : Lay) (p : Pt) (lost : Bool) (m : List Int) : Pt × Bool × List Int :=
  if p.done = true then (p, lost, m)
  else if p.at_ = 0 then ({ p with at_ := 1, t := ld m (l.top p.w) }, lost, m)
  else if p.at_ = 1 then
    if ld m (bot l p.w) ≤ p.t then ({ p with at_ := 2, b := ld m (bot l p.w), done := true, got := false }, lost, m)
    else ({ p with at_ := 2, b := ld m (bot l p.w) }, lost, m)
  else if p.at_ = 2 then ({ p with at_ := 3, x := ld m (l.slot p.w p.t) }, lost, m)
  else ({ p with at_ := 4, done := true, got := hits m (l.top p.w) p.t }, !(hits m (l.top p.w) p.t), casB m (l.top p.w) p.t (hits m (l.top p.w) p.t))
def pushS (l : Lay) (p : Pt) (v : Int) (m : List Int) : Pt × List Int :=
  if p.done = true then (p, m)
  else if p.at_ = 0 then ({ p with at_ := 1, b := ld m (bot l p.w) }, m)
  else if p.at_ = 1 then
    if l.room ≤ p.b - ld m (l.top p.w) then ({ p with at_ := 2, t := ld m (l.top p.w), done := true, got := false }, m)
    else ({ p with at_ := 2, t := ld m (l.top p.w) }, m)
  else if p.at_ = 2 then ({ p with at_ := 3 }, st m (l.slot p.w p.b) v)
  else ({ p with at_ := 4, done := true, got := true }, st m (bot l p.w) (p.b + 1))
/-- a number of moderate size -/
def Mod1 (v : Int) : Prop := -1000000 ≤ v ∧ v ≤ 1000000
structure PopOK (l : Lay) (p : Pt) (m : List Int) : Prop where
  fit : Fit l p.w
  a0 : p.done = false → 0 ≤ p.at_ ∧ p.at_ ≤ 5
  b : Mod1 p.b
  t : Mod1 p.t
  mb : Mod1 (ld m (bot l p.w))
  s : p.done = false → p.at_ = 3 → p.t ≤ p.b → 0 ≤ p.b
structure StealOK (l : Lay) (p : Pt) (m : List Int) : Prop where
  fit : Fit l p.w
  a0 : p.done = false → 0 ≤ p.at_ ∧ p.at_ ≤ 3
  t : Mod1 p.t
  s : p.done = false → p.at_ = 2 → 0 ≤ p.t
structure PushOK (l : Lay) (p : Pt) (m : List Int) : Prop where
  fit : Fit l p.w
  a0 : p.done = false → 0 ≤ p.at_ ∧ p.at_ ≤ 3
  b : Mod1 p.b
  mt : Mod1 (ld m (l.top p.w))
  s : p.done = false → p.at_ = 2 → 0 ≤ p.b
theorem cells_pop {l : Lay} {p p' : Pt} {c' : Array Value} (h : DC c' l p') (k : Past (ptCells l p) c') : c' = ptCells l p' := by
  apply Array.ext_getElem?
  intro j
  by_cases hj : j < 21
  · exact h j hj
  · have : c'.size = 21 := k.1
    rw [Array.getElem?_eq_none (by omega), Array.getElem?_eq_none (by show 21 ≤ j; omega)]
theorem cells_steal {l : Lay} {p p' : Pt} {s s' : Bool} {c' : Array Value} (h : DC c' l p') (hs : c'.size = 22) (hx : c'[21]? = some (.bool s')) : c' = stealCells l p' s' := by
  apply Array.ext_getElem?
  intro j
  by_cases hj : j < 21
  · rw [h j hj, DC.steal l p' s' j hj]
  · by_cases hk : j = 21
    · subst hk; rw [hx]; rfl
    · rw [Array.getElem?_eq_none (by omega), Array.getElem?_eq_none (by show 22 ≤ j; omega)]
theorem cells_push {l : Lay} {p p' : Pt} {v : Int} {c' : Array Value} (h : DC c' l p') (k : Past (pushCells l p v) c') : c' = pushCells l p' v := by
  apply Array.ext_getElem?
  intro j
  by_cases hj : j < 21
  · rw [h j hj, DC.push l p' v j hj]
  · by_cases hk : j = 21
    · subst hk; rw [k.2 21 (by omega)]; rfl
    · have : c'.size = 22 := k.1
      rw [Array.getElem?_eq_none (by omega), Array.getElem?_eq_none (by show 22 ≤ j; omega)]
def PopAt (w : World) (P : Nat) (l : Lay) (p : Pt) : Prop := DBlk w P 59 (ptCells l p)
def StealAt (w : World) (P : Nat) (l : Lay) (p : Pt) (s : Bool) : Prop := DBlk w P 53 (stealCells l p s)
def PushAt (w : World) (P : Nat) (l : Lay) (p : Pt) (v : Int) : Prop := DBlk w P 79 (pushCells l p v)
theorem DPost.pop {w' : World} {P : Nat} {l : Lay} {p p' : Pt} (h : DPost w' P 59 (ptCells l p) l p') : PopAt w' P l p' := by
  obtain ⟨c', h1, h2, h3⟩ := h
  rw [cells_pop h2 h3] at h1
  exact h1
theorem DPost.push {w' : World} {P : Nat} {l : Lay} {p p' : Pt} {v : Int} (h : DPost w' P 79 (pushCells l p v) l p') : PushAt w' P l p' v := by
  obtain ⟨c', h1, h2, h3⟩ := h
  rw [cells_push h2 h3] at h1
  exact h1
theorem DPost.steal {w' : World} {P : Nat} {l : Lay} {p p' : Pt} {s : Bool} (h : DPost w' P 53 (stealCells l p s) l p') : StealAt w' P l p' s := by
  obtain ⟨c', h1, h2, h3⟩ := h
  rw [cells_steal (p := p) (s := s) (s' := s) h2 h3.1 (h3.2 21 (by omega))] at h1
  exact h1
theorem pop_step (P B D : Nat) (l : Lay) (p : Pt) (m : List Int) (w : World) (h : PopAt w P l p) (hb : BankAt w B D m) (hPB : P ≠ B ∧ P ≠ D) (ok : PopOK l p m) :
    Calls Try.prog 27 #[.pointer (some ⟨P, 0, none⟩), .pointer (some ⟨B, 0, none⟩)] w fun e w' => e = .returned (.bool (popS l p m).1.done) ∧ Kept [P, D] w w' ∧ PopAt w' P l (popS l p m).1 ∧ BankAt w' B D (popS l p m).2 := by
  by_cases hd : p.done = true
  · have e : popS l p m = (p, m) := by simp [popS, hd]
    rw [e]
    refine (p70_done P B _ _ l p w h (DC.pop l p) hd).mono ?_
    rintro r w' ⟨rfl, rfl⟩
    exact ⟨by rw [hd], Kept.refl _ _, h, hb⟩
  have hdn : p.done = false := by simpa using hd
  have ha := ok.a0 hdn
  rcases (by omega : p.at_ = 0 ∨ p.at_ = 1 ∨ p.at_ = 2 ∨ p.at_ = 3 ∨ p.at_ = 4 ∨ p.at_ = 5) with hat | hat | hat | hat | hat | hat
  · have e : popS l p m = ({ p with at_ := 1, b := ld m (bot l p.w) - 1 }, m) := by simp [popS, hdn, hat]
    rw [e]
    refine (p70_0 P B D _ _ l p m _ rfl w h (DC.pop l p) ok.fit hb hPB hat hdn ok.mb.1 ok.mb.2).mono ?_
    rintro r w' ⟨rfl, hk, hp, hb'⟩
    exact ⟨by simp [hdn], hk, hp.pop, hb'⟩
  · have e : popS l p m = ({ p with at_ := 2 }, st m (bot l p.w) p.b) := by simp [popS, hdn, hat]
    rw [e]
    refine (p70_1 P B D _ _ l p m w h (DC.pop l p) ok.fit hb hPB hat hdn).mono ?_
    rintro r w' ⟨rfl, hk, hp, hb'⟩
    exact ⟨by simp [hdn], hk, hp.pop, hb'⟩
  · have e : popS l p m = ({ p with at_ := 3, t := ld m (l.top p.w) }, m) := by simp [popS, hdn, hat]
    rw [e]
    refine (p70_2 P B D _ _ l p m _ rfl w h (DC.pop l p) ok.fit hb hPB hat hdn).mono ?_
    rintro r w' ⟨rfl, hk, hp, hb'⟩
    exact ⟨by simp [hdn], hk, hp.pop, hb'⟩
  · by_cases h1 : p.b < p.t
    · have e : popS l p m = ({ p with at_ := 4, done := true }, st m (bot l p.w) (p.b + 1)) := by simp [popS, hdn, hat, h1]
      rw [e]
      refine (p70_3back P B D _ _ l p m w h (DC.pop l p) ok.fit hb hPB hat hdn h1 ok.b.1 ok.b.2).mono ?_
      rintro r w' ⟨rfl, hk, hp, hb'⟩
      exact ⟨rfl, hk, hp.pop, hb'⟩
    · by_cases h2 : p.t < p.b
      · have e : popS l p m = ({ p with at_ := 4, x := ld m (l.slot p.w p.b), done := true, got := true }, m) := by simp [popS, hdn, hat, h1, h2]
        rw [e]
        refine (p70_3more P B D _ _ l p m _ rfl w h (DC.pop l p) ok.fit hb hPB hat hdn (by omega) h2 (ok.s hdn hat (by omega)) ok.b.2).mono ?_
        rintro r w' ⟨rfl, hk, hp, hb'⟩
        exact ⟨rfl, hk, hp.pop, hb'⟩
      · have e : popS l p m = ({ p with at_ := 4, x := ld m (l.slot p.w p.b) }, m) := by simp [popS, hdn, hat, h1, h2]
        rw [e]
        refine (p70_3one P B D _ _ l p m _ rfl w h (DC.pop l p) ok.fit hb hPB hat hdn (by omega) (by omega) (ok.s hdn hat (by omega)) ok.b.2).mono ?_
        rintro r w' ⟨rfl, hk, hp, hb'⟩
        exact ⟨by simp [hdn], hk, hp.pop, hb'⟩
  · have e : popS l p m = ({ p with at_ := 5, got := hits m (l.top p.w) p.t }, casB m (l.top p.w) p.t (hits m (l.top p.w) p.t)) := by simp [popS, hdn, hat]
    rw [e]
    refine (p70_4 P B D _ _ l p m _ rfl w h (DC.pop l p) ok.fit hb hPB hat hdn ok.t.1 ok.t.2).mono ?_
    rintro r w' ⟨rfl, hk, hp, hb'⟩
    exact ⟨by simp [hdn], hk, hp.pop, hb'⟩
  · have e : popS l p m = ({ p with at_ := 6, done := true }, st m (bot l p.w) (p.b + 1)) := by simp [popS, hdn, hat]
    rw [e]
    refine (p70_5 P B D _ _ l p m _ rfl w h (DC.pop l p) ok.fit hb hPB hat hdn ok.b.1 ok.b.2).mono ?_
    rintro r w' ⟨rfl, hk, hp, hb'⟩
    exact ⟨rfl, hk, hp.pop, hb'⟩
theorem steal_step (P B D : Nat) (l : Lay) (p : Pt) (s : Bool) (m : List Int) (w : World) (h : StealAt w P l p s) (hb : BankAt w B D m) (hPB : P ≠ B ∧ P ≠ D) (ok : StealOK l p m) :
    Calls Try.prog 24 #[.pointer (some ⟨P, 0, none⟩), .pointer (some ⟨B, 0, none⟩)] w fun e w' => e = .returned (.bool (stealS l p s m).1.done) ∧ Kept [P, D] w w' ∧ StealAt w' P l (stealS l p s m).1 (stealS l p s m).2.1 ∧ BankAt w' B D (stealS l p s m).2.2 := by
  by_cases hd : p.done = true
  · have e : stealS l p s m = (p, s, m) := by simp [stealS, hd]
    rw [e]
    refine (p67_done P B _ _ l p w h (DC.steal l p s) hd).mono ?_
    rintro r w' ⟨rfl, rfl⟩
    exact ⟨by rw [hd], Kept.refl _ _, h, hb⟩
  have hdn : p.done = false := by simpa using hd
  have ha := ok.a0 hdn
  rcases (by omega : p.at_ = 0 ∨ p.at_ = 1 ∨ p.at_ = 2 ∨ p.at_ = 3) with hat | hat | hat | hat
  · have e : stealS l p s m = ({ p with at_ := 1, t := ld m (l.top p.w) }, s, m) := by simp [stealS, hdn, hat]
    rw [e]
    refine (p67_0 P B D _ _ l p m _ rfl w h (DC.steal l p s) ok.fit hb hPB hat hdn).mono ?_
    rintro r w' ⟨rfl, hk, hp, hb'⟩
    exact ⟨by simp [hdn], hk, hp.steal, hb'⟩
  · by_cases h1 : ld m (bot l p.w) ≤ p.t
    · have e : stealS l p s m = ({ p with at_ := 2, b := ld m (bot l p.w), done := true, got := false }, s, m) := by simp [stealS, hdn, hat, h1]
      rw [e]
      refine (p67_1none P B D _ _ l p m _ rfl w h (DC.steal l p s) ok.fit hb hPB hat hdn h1).mono ?_
      rintro r w' ⟨rfl, hk, hp, hb'⟩
      exact ⟨rfl, hk, hp.steal, hb'⟩
    · have e : stealS l p s m = ({ p with at_ := 2, b := ld m (bot l p.w) }, s, m) := by simp [stealS, hdn, hat, h1]
      rw [e]
      refine (p67_1more P B D _ _ l p m _ rfl w h (DC.steal l p s) ok.fit hb hPB hat hdn (by omega)).mono ?_
      rintro r w' ⟨rfl, hk, hp, hb'⟩
      exact ⟨by simp [hdn], hk, hp.steal, hb'⟩
  · have e : stealS l p s m = ({ p with at_ := 3, x := ld m (l.slot p.w p.t) }, s, m) := by simp [stealS, hdn, hat]
    rw [e]
    refine (p67_2 P B D _ _ l p m _ rfl w h (DC.steal l p s) ok.fit hb hPB hat hdn (ok.s hdn hat) ok.t.2).mono ?_
    rintro r w' ⟨rfl, hk, hp, hb'⟩
    exact ⟨by simp [hdn], hk, hp.steal, hb'⟩
  · have e : stealS l p s m = ({ p with at_ := 4, done := true, got := hits m (l.top p.w) p.t }, !(hits m (l.top p.w) p.t), casB m (l.top p.w) p.t (hits m (l.top p.w) p.t)) := by simp [stealS, hdn, hat]
    rw [e]
    refine (p67_3 P B D _ _ l p m _ s rfl rfl w h (DC.steal l p s) ok.fit hb hPB hat hdn ok.t.1 ok.t.2).mono ?_
    rintro r w' ⟨rfl, hk, ⟨c', h1, h2, h3, h4⟩, hb'⟩
    refine ⟨rfl, hk, ?_, hb'⟩
    rw [cells_steal (p := p) (s := s) h2 h4 h3] at h1
    exact h1
theorem push_step (P B D : Nat) (l : Lay) (p : Pt) (v : Int) (m : List Int) (w : World) (h : PushAt w P l p v) (hb : BankAt w B D m) (hPB : P ≠ B ∧ P ≠ D) (ok : PushOK l p m) :
    Calls Try.prog 72 #[.pointer (some ⟨P, 0, none⟩), .pointer (some ⟨B, 0, none⟩)] w fun e w' => e = .returned (.bool (pushS l p v m).1.done) ∧ Kept [P, D] w w' ∧ PushAt w' P l (pushS l p v m).1 v ∧ BankAt w' B D (pushS l p v m).2 := by
  by_cases hd : p.done = true
  · have e : pushS l p v m = (p, m) := by simp [pushS, hd]
    rw [e]
    refine (p159_done P B _ _ l p w h (DC.push l p v) hd).mono ?_
    rintro r w' ⟨rfl, rfl⟩
    exact ⟨by rw [hd], Kept.refl _ _, h, hb⟩
  have hdn : p.done = false := by simpa using hd
  have ha := ok.a0 hdn
  rcases (by omega : p.at_ = 0 ∨ p.at_ = 1 ∨ p.at_ = 2 ∨ p.at_ = 3) with hat | hat | hat | hat
  · have e : pushS l p v m = ({ p with at_ := 1, b := ld m (bot l p.w) }, m) := by simp [pushS, hdn, hat]
    rw [e]
    refine (p159_0 P B D _ _ l p m _ rfl w h (DC.push l p v) ok.fit hb hPB hat hdn).mono ?_
    rintro r w' ⟨rfl, hk, hp, hb'⟩
    exact ⟨by simp [hdn], hk, hp.push, hb'⟩
  · by_cases h1 : l.room ≤ p.b - ld m (l.top p.w)
    · have e : pushS l p v m = ({ p with at_ := 2, t := ld m (l.top p.w), done := true, got := false }, m) := by simp [pushS, hdn, hat, h1]
      rw [e]
      refine (p159_1full P B D _ _ l p m _ rfl w h (DC.push l p v) ok.fit hb hPB hat hdn h1 ok.mt.1 ok.mt.2 ok.b.1 ok.b.2).mono ?_
      rintro r w' ⟨rfl, hk, hp, hb'⟩
      exact ⟨rfl, hk, hp.push, hb'⟩
    · have e : pushS l p v m = ({ p with at_ := 2, t := ld m (l.top p.w) }, m) := by simp [pushS, hdn, hat, h1]
      rw [e]
      refine (p159_1more P B D _ _ l p m _ rfl w h (DC.push l p v) ok.fit hb hPB hat hdn (by omega) ok.mt.1 ok.mt.2 ok.b.1 ok.b.2).mono ?_
      rintro r w' ⟨rfl, hk, hp, hb'⟩
      exact ⟨by simp [hdn], hk, hp.push, hb'⟩
  · have e : pushS l p v m = ({ p with at_ := 3 }, st m (l.slot p.w p.b) v) := by simp [pushS, hdn, hat]
    rw [e]
    refine (p159_2 P B D _ _ l p m v rfl w h (DC.push l p v) ok.fit hb hPB hat hdn (ok.s hdn hat) ok.b.2).mono ?_
    rintro r w' ⟨rfl, hk, hp, hb'⟩
    exact ⟨by simp [hdn], hk, hp.push, hb'⟩
  · have e : pushS l p v m = ({ p with at_ := 4, done := true, got := true }, st m (bot l p.w) (p.b + 1)) := by simp [pushS, hdn, hat]
    rw [e]
    refine (p159_3 P B D _ _ l p m _ rfl w h (DC.push l p v) ok.fit hb hPB hat hdn ok.b.1 ok.b.2).mono ?_
    rintro r w' ⟨rfl, hk, hp, hb'⟩
    exact ⟨rfl, hk, hp.push, hb'⟩
end Go.Proofs.Ytlbhckndejldcaa
