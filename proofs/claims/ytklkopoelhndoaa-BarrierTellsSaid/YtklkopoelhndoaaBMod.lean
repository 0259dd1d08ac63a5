/- A barrier machine as a plain step; that the program's and the document's take it. -/
import Derived.Test.YtklkopoelhndoaaBarrO1
import Derived.Test.YtklkopoelhndoaaBRef
namespace Go.Proofs.Ytklkopoelhndoaa
open Go.RowKit
set_option linter.unusedVariables false
structure Am where
  (nx own : Int)
  (last : Bool)
def arrS (n : Int) (a : Am) (p s : Int) : Am × Int × Int :=
  if a.nx = 0 then (⟨1, if s = 0 then 1 else 0, a.last⟩, p, s)
  else if a.nx = 1 then (⟨if (wrap64 (p + -1) == 0) = true then 2 else 4, a.own, wrap64 (p + -1) == 0⟩, wrap64 (p + -1), s)
  else if a.nx = 2 then (⟨3, a.own, a.last⟩, n, s)
  else if a.nx = 3 then (⟨5, a.own, a.last⟩, p, a.own)
  else (⟨if (s == a.own) = true then 5 else 4, a.own, a.last⟩, p, s)
theorem o101_any (P o B D N : Nat) (c : Array Value) (l : Lay) (n p s : Int) (a : Am) (R : Am × Int × Int) (hR : arrS n a p s = R) (hl : L14 l N n) (h0 : 0 ≤ a.nx) (h4 : a.nx ≤ 4) (w : World) (h : BlkAt w P c) (hm : MC c o l a.nx a.own a.last) (hb : BankAt w B D (bs N p s)) (hPB : P ≠ B ∧ P ≠ D) :
    Calls Try.prog 54 #[.pointer (some ⟨P, o, none⟩), .pointer (some ⟨B, 0, none⟩)] w fun e w' => e = .returned (.bool (R.1.nx == 5)) ∧ Kept [P, D] w w' ∧ MPost w w' P o c l R.1.nx R.1.own R.1.last ∧ BankAt w' B D (bs N R.2.1 R.2.2) := by
  obtain ⟨nx, own, last⟩ := a
  simp only at h0 h4 hm
  have hbig := hl.big
  have hlen : (List.replicate N (0 : Int)).length = N := by simp
  rcases (by omega : nx = 0 ∨ nx = 1 ∨ nx = 2 ∨ nx = 3 ∨ nx = 4) with rfl | rfl | rfl | rfl | rfl
  · have e : R = (⟨1, if s = 0 then 1 else 0, last⟩, p, s) := by rw [← hR]; rfl
    subst e
    have := o101_0 P o B D c l (bs N p s) own last w h hm hb hPB
    have e : lookOwn l (bs N p s) = if s = 0 then 1 else 0 := by rw [lookOwn, hl.sense, bs, gs_ld10 (by rw [hlen]; exact hl.big)]
    rw [e] at this
    exact this
  · have e : R = (⟨if (wrap64 (p + -1) == 0) = true then 2 else 4, own, wrap64 (p + -1) == 0⟩, wrap64 (p + -1), s) := by rw [← hR]; rfl
    subst e
    have ha : adds (bs N p s) l.count (-1) = wrap64 (p + -1) := by rw [adds, hl.count, if_pos (by rw [bs_length]; omega), bs, gs_ld9 (by rw [hlen]; exact hl.big)]
    have := o101_1 P o B D c l (bs N p s) own last (wrap64 (p + -1) == 0) (by rw [ha]) w h hm hb hPB
    rw [hl.count, bs, gs_ld9 (by rw [hlen]; exact hl.big), gs_st9 (by rw [hlen]; exact hl.big)] at this
    have e2 : ((if (wrap64 (p + -1) == 0) = true then (2 : Int) else 4) == 5) = false := by split <;> rfl
    simp only [e2]
    exact this
  · have e : R = (⟨3, own, last⟩, n, s) := by rw [← hR]; rfl
    subst e
    have := o101_2 P o B D c l (bs N p s) own last w h hm hb hPB
    rw [hl.count, hl.workers, bs, gs_st9 (by rw [hlen]; exact hl.big)] at this
    exact this
  · have e : R = (⟨5, own, last⟩, p, own) := by rw [← hR]; rfl
    subst e
    have := o101_3 P o B D c l (bs N p s) own last w h hm hb hPB
    rw [hl.sense, bs, gs_st10 (by rw [hlen]; exact hl.big)] at this
    exact this
  · have e : R = (⟨if (s == own) = true then 5 else 4, own, last⟩, p, s) := by rw [← hR]; rfl
    subst e
    have := o101_4 P o B D c l (bs N p s) own last (s == own) (by rw [hl.sense, bs, gs_ld10 (by rw [hlen]; exact hl.big)]) w h hm hb hPB
    have e2 : ((if (s == own) = true then (5 : Int) else 4) == 5) = (s == own) := by cases (s == own) <;> rfl
    simp only [e2]
    exact this
/-- how a machine and the document's agree -/
def RefRel (a : Am) (at_ : Int) : Prop :=
  (a.nx = 0 ∧ at_ = 0 ∧ a.own = 0 ∧ a.last = false) ∨ (a.nx = 1 ∧ at_ = 1 ∧ a.last = false) ∨ (a.nx = 2 ∧ at_ = 2 ∧ a.last = true) ∨ (a.nx = 3 ∧ at_ = 3 ∧ a.last = true) ∨ (a.nx = 4 ∧ 2 ≤ at_ ∧ a.last = false)
theorem RefRel.le {a : Am} {at_ : Int} (h : RefRel a at_) : 0 ≤ a.nx ∧ a.nx ≤ 4 := by
  rcases h with h | h | h | h | h <;> omega
theorem RefRel.step {a : Am} {at_ n p s : Int} {R : Am × Int × Int} (h : RefRel a at_) (hR : arrS n a p s = R) (h5 : (R.1.nx == 5) = false) : RefRel R.1 (at_ + 1) := by
  obtain ⟨nx, own, last⟩ := a
  subst hR
  rcases h with ⟨h, h1, h2, h3⟩ | ⟨h, h1, h2⟩ | ⟨h, h1, h2⟩ | ⟨h, h1, h2⟩ | ⟨h, h1, h2⟩ <;> simp only at h h1 h2 <;> subst h
  · exact .inr (.inl ⟨rfl, by omega, by simpa [arrS] using h3⟩)
  · by_cases e : (wrap64 (p + -1) == 0) = true
    · exact .inr (.inr (.inl ⟨by simp [arrS, e], by omega, by simp [arrS, e]⟩))
    · have e : (wrap64 (p + -1) == 0) = false := by simpa using e
      exact .inr (.inr (.inr (.inr ⟨by simp [arrS, e], by omega, by simp [arrS, e]⟩)))
  · exact .inr (.inr (.inr (.inl ⟨by simp [arrS], by omega, by simpa [arrS] using h2⟩)))
  · simp [arrS] at h5
  · by_cases e : (s == own) = true
    · simp [arrS, e] at h5
    · have e : (s == own) = false := by simpa using e
      exact .inr (.inr (.inr (.inr ⟨by simp [arrS, e], by omega, by simpa [arrS] using h2⟩)))
theorem r100_any (l : Lay) (g c N : Nat) (n p s at_ : Int) (a : Am) (R : Am × Int × Int) (hR : arrS n a p s = R) (hrel : RefRel a at_) (hat : at_ ≤ 1000) (hl : L14 l N n) (hN : N ≤ 524288) (w : World) (hr : RowIn w g (bs N p s)) :
    Calls Try.prog 53 #[.agg (refCells at_ a.own a.last false), l.val, .slice (some ⟨g, 0, none⟩) N c] w (RPost g N (at_ + 1) R.1.own R.1.last (R.1.nx == 5) R.2.1 R.2.2 w) := by
  obtain ⟨nx, own, last⟩ := a
  subst hR
  rcases hrel with ⟨h, h1, h2, h3⟩ | ⟨h, h1, h2⟩ | ⟨h, h1, h2⟩ | ⟨h, h1, h2⟩ | ⟨h, h1, h2⟩ <;> simp only at h h1 h2 <;> subst h
  · simp only at h3
    subst h1 h2 h3
    by_cases hs : s = 0
    · subst hs
      exact r100_0a l g c N n p 0 rfl hl hN w hr
    · have e : arrS n ⟨0, 0, false⟩ p s = (⟨1, 0, false⟩, p, s) := by simp [arrS, hs]
      rw [e]
      exact r100_0b l g c N n p s (by simpa using hs) hl hN w hr
  · subst h1 h2
    have e : arrS n ⟨1, own, false⟩ p s = (⟨if (wrap64 (p + -1) == 0) = true then 2 else 4, own, wrap64 (p + -1) == 0⟩, wrap64 (p + -1), s) := rfl
    rw [e]
    have e2 : ((if (wrap64 (p + -1) == 0) = true then (2 : Int) else 4) == 5) = false := by split <;> rfl
    simp only [e2]
    exact r100_1 l g c N n p s own _ _ rfl rfl hl hN w hr
  · subst h1 h2
    exact r100_2 l g c N n p s own hl hN w hr
  · subst h1 h2
    exact r100_3 l g c N n p s own hl hN w hr
  · subst h2
    have e : arrS n ⟨4, own, false⟩ p s = (⟨if (s == own) = true then 5 else 4, own, false⟩, p, s) := rfl
    rw [e]
    have e2 : ((if (s == own) = true then (5 : Int) else 4) == 5) = (s == own) := by cases (s == own) <;> rfl
    simp only [e2]
    exact r100_4 l g c N n p s own at_ (at_ + 1) (s == own) h1 (by omega) rfl rfl hl hN w hr
end Go.Proofs.Ytklkopoelhndoaa
