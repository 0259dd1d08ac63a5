/- By itself a deque is a row: what a push, a pop, a steal do with it. Plain. -/
import Derived.Test.YtlbhckndejldcaaHeld
import Derived.Test.YtlbhckndejldcaaSmall
namespace Go.Proofs.Ytlbhckndejldcaa
open Go.RowKit
set_option linter.unusedVariables false
/-- a deque's cells lie in the bank -/
structure InB (l : Lay) (k : Int) (m : List Int) : Prop where
  fit : Fit l k
  hi : l.top k + 2 + l.room ≤ m.length
theorem InB.lo {l : Lay} {k : Int} {m : List Int} (h : InB l k m) : 0 ≤ l.top k := h.fit.topbd.1
theorem InB.room {l : Lay} {k : Int} {m : List Int} (h : InB l k m) : 1 ≤ l.room := h.fit.r.bd.1
theorem InB.st {l : Lay} {k : Int} {m : List Int} (h : InB l k m) (i v : Int) : InB l k (st m i v) := ⟨h.fit, by rw [st_length]; exact h.hi⟩
theorem slotBd {l : Lay} {k : Int} (hr : 1 ≤ l.room) (a : Int) : l.top k + 2 ≤ l.slot k a ∧ l.slot k a < l.top k + 2 + l.room := by
  unfold Lay.slot
  have h0 := Int.emod_nonneg a (b := l.room) (by omega)
  have h1 := Int.emod_lt_of_pos a (b := l.room) (by omega)
  omega
theorem InB.st_top {l : Lay} {k : Int} {m : List Int} (h : InB l k m) (v : Int) : ld (Go.Proofs.Ytlbhckndejldcaa.st m (l.top k) v) (l.top k) = v := ld_st_same h.lo (by have := h.hi; have := h.room; omega)
theorem InB.st_bot {l : Lay} {k : Int} {m : List Int} (h : InB l k m) (v : Int) : ld (Go.Proofs.Ytlbhckndejldcaa.st m (bot l k) v) (bot l k) = v := ld_st_same (by have := h.lo; unfold bot; omega) (by have := h.hi; have := h.room; unfold bot; omega)
theorem InB.st_slot {l : Lay} {k : Int} {m : List Int} (h : InB l k m) (a v : Int) : ld (Go.Proofs.Ytlbhckndejldcaa.st m (l.slot k a) v) (l.slot k a) = v := by
  have := slotBd (l := l) (k := k) h.room a
  exact ld_st_same (by have := h.lo; omega) (by have := h.hi; omega)
theorem top_bot (m : List Int) (l : Lay) (k v : Int) : ld (st m (l.top k) v) (bot l k) = ld m (bot l k) := ld_st_other (by unfold bot; omega)
theorem bot_top (m : List Int) (l : Lay) (k v : Int) : ld (st m (bot l k) v) (l.top k) = ld m (l.top k) := ld_st_other (by unfold bot; omega)
theorem top_slot {l : Lay} (hr : 1 ≤ l.room) (m : List Int) (k v a : Int) : ld (st m (l.top k) v) (l.slot k a) = ld m (l.slot k a) := ld_st_other (by have := slotBd (k := k) hr a; omega)
theorem bot_slot {l : Lay} (hr : 1 ≤ l.room) (m : List Int) (k v a : Int) : ld (st m (bot l k) v) (l.slot k a) = ld m (l.slot k a) := ld_st_other (by have := slotBd (k := k) hr a; unfold bot; omega)
theorem slot_top {l : Lay} (hr : 1 ≤ l.room) (m : List Int) (k v a : Int) : ld (st m (l.slot k a) v) (l.top k) = ld m (l.top k) := ld_st_other (by have := slotBd (k := k) hr a; omega)
theorem slot_bot {l : Lay} (hr : 1 ≤ l.room) (m : List Int) (k v a : Int) : ld (st m (l.slot k a) v) (bot l k) = ld m (bot l k) := ld_st_other (by have := slotBd (k := k) hr a; unfold bot; omega)
/-- two places of a row no longer than the room are two slots -/
theorem slot_ne {l : Lay} (hr : 1 ≤ l.room) (k a b : Int) (h : a < b) (hd : b - a < l.room) : l.slot k a ≠ l.slot k b := by
  unfold Lay.slot
  intro e
  have e : a % l.room = b % l.room := by omega
  have h1 := Int.emod_add_mul_ediv a l.room
  have h2 := Int.emod_add_mul_ediv b l.room
  have h3 : l.room * (b / l.room - a / l.room) = b - a := by rw [Int.mul_sub]; omega
  have h4 : 0 < b / l.room - a / l.room := by
    apply Classical.byContradiction
    intro hn
    have : l.room * (b / l.room - a / l.room) ≤ 0 := Int.mul_nonpos_of_nonneg_of_nonpos (by omega) (by omega)
    omega
  have h5 : l.room * 1 ≤ l.room * (b / l.room - a / l.room) := Int.mul_le_mul_of_nonneg_left (by omega) (by omega)
  omega
/-! ### runs -/
def PushRun (l : Lay) (v : Int) (n : Nat) (i : Int) (p : Pt) (m : List Int) (R : Int × Pt × List Int) : Prop := pushOKs l v n p m ∧ pushE l v n i p m = R
def PopRun (l : Lay) (n : Nat) (i : Int) (p : Pt) (m : List Int) (R : Int × Pt × List Int) : Prop := popOKs l n p m ∧ popE l n i p m = R
def StealRun (l : Lay) (n : Nat) (i : Int) (p : Pt) (s : Bool) (m : List Int) (R : Int × Pt × Bool × List Int) : Prop := stealOKs l n p s m ∧ stealE l n i p s m = R
theorem PushRun.more {l : Lay} {v : Int} {n : Nat} {i : Int} {p p' : Pt} {m m' : List Int} {R : Int × Pt × List Int} (ok : PushOK l p m) (e : pushS l p v m = (p', m')) (hd : p'.done = false) (h : PushRun l v n (i + 1) p' m' R) : PushRun l v (n + 1) i p m R :=
  ⟨⟨ok, fun _ => by rw [e]; exact h.1⟩, by simp only [pushE, e, hd]; exact h.2⟩
theorem PushRun.last {l : Lay} {v : Int} {n : Nat} {i : Int} {p p' : Pt} {m m' : List Int} (ok : PushOK l p m) (e : pushS l p v m = (p', m')) (hd : p'.done = true) : PushRun l v (n + 1) i p m (i, p', m') :=
  ⟨⟨ok, fun hf => by rw [e, hd] at hf; simp at hf⟩, by simp only [pushE, e, hd, if_true]⟩
theorem PopRun.more {l : Lay} {n : Nat} {i : Int} {p p' : Pt} {m m' : List Int} {R : Int × Pt × List Int} (ok : PopOK l p m) (e : popS l p m = (p', m')) (hd : p'.done = false) (h : PopRun l n (i + 1) p' m' R) : PopRun l (n + 1) i p m R :=
  ⟨⟨ok, fun _ => by rw [e]; exact h.1⟩, by simp only [popE, e, hd]; exact h.2⟩
theorem PopRun.last {l : Lay} {n : Nat} {i : Int} {p p' : Pt} {m m' : List Int} (ok : PopOK l p m) (e : popS l p m = (p', m')) (hd : p'.done = true) : PopRun l (n + 1) i p m (i, p', m') :=
  ⟨⟨ok, fun hf => by rw [e, hd] at hf; simp at hf⟩, by simp only [popE, e, hd, if_true]⟩
theorem StealRun.more {l : Lay} {n : Nat} {i : Int} {p p' : Pt} {s s' : Bool} {m m' : List Int} {R : Int × Pt × Bool × List Int} (ok : StealOK l p m) (e : stealS l p s m = (p', s', m')) (hd : p'.done = false) (h : StealRun l n (i + 1) p' s' m' R) : StealRun l (n + 1) i p s m R :=
  ⟨⟨ok, fun _ => by rw [e]; exact h.1⟩, by simp only [stealE, e, hd]; exact h.2⟩
theorem StealRun.last {l : Lay} {n : Nat} {i : Int} {p p' : Pt} {s s' : Bool} {m m' : List Int} (ok : StealOK l p m) (e : stealS l p s m = (p', s', m')) (hd : p'.done = true) : StealRun l (n + 1) i p s m (i, p', s', m') :=
  ⟨⟨ok, fun hf => by rw [e, hd] at hf; simp at hf⟩, by simp only [stealE, e, hd, if_true]⟩
/-! ### the row -/
structure Dq (l : Lay) (k : Int) (m : List Int) (t : Int) (row : List Int) : Prop where
  inb : InB l k m
  top : ld m (l.top k) = t
  bot : ld m (bot l k) = t + row.length
  t0 : 0 ≤ t
  room : (row.length : Int) ≤ l.room
  slots : ∀ i : Nat, i < row.length → ld m (l.slot k (t + i)) = row.getD i 0
  big : t + row.length ≤ 900000
/-- what no deque but k's is: any cell outside of its own -/
def Apart (l : Lay) (k : Int) (m m' : List Int) : Prop := m'.length = m.length ∧ ∀ i, (i < l.top k ∨ l.top k + 2 + l.room ≤ i) → ld m' i = ld m i
theorem Apart.refl (l : Lay) (k : Int) (m : List Int) : Apart l k m m := ⟨rfl, fun _ _ => rfl⟩
theorem Apart.trans {l : Lay} {k : Int} {a b c : List Int} (h : Apart l k a b) (g : Apart l k b c) : Apart l k a c := ⟨g.1.trans h.1, fun i hi => (g.2 i hi).trans (h.2 i hi)⟩
theorem Apart.st {l : Lay} {k : Int} {m m' : List Int} (h : Apart l k m m') (i v : Int) (hi : l.top k ≤ i ∧ i < l.top k + 2 + l.room) : Apart l k m (st m' i v) :=
  ⟨by rw [st_length]; exact h.1, fun j hj => by rw [ld_st_other (by omega)]; exact h.2 j hj⟩
theorem mod1 {v : Int} (h0 : -1000000 ≤ v) (h1 : v ≤ 1000000) : Mod1 v := ⟨h0, h1⟩
theorem push_full {l : Lay} {k t : Int} {m row : List Int} (h : Dq l k m t row) (v : Int) (hf : l.room ≤ row.length) :
    PushRun l v 9 1 (pt0 k) m (2, ⟨k, 2, t, t + row.length, 0, true, false⟩, m) := by
  have hb := h.big
  have ht := h.t0
  have e1 : pushS l (pt0 k) v m = (⟨k, 1, 0, t + row.length, 0, false, false⟩, m) := by simp [pushS, h.bot]
  have e2 : pushS l ⟨k, 1, 0, t + row.length, 0, false, false⟩ v m = (⟨k, 2, t, t + row.length, 0, true, false⟩, m) := by
    have : l.room ≤ t + row.length - t := by omega
    simp [pushS, h.top, this]
  refine .more ⟨h.inb.fit, fun _ => by simp, mod1 (by simp) (by simp), by rw [h.top]; exact mod1 (by omega) (by omega), fun _ hh => by simp at hh⟩ e1 rfl ?_
  exact .last ⟨h.inb.fit, fun _ => by simp, mod1 (by simp only; omega) (by simp only; omega), by rw [h.top]; exact mod1 (by omega) (by omega), fun _ hh => by simp at hh⟩ e2 rfl
theorem push_room {l : Lay} {k t : Int} {m row : List Int} (h : Dq l k m t row) (v : Int) (hf : (row.length : Int) < l.room) (hbig : t + row.length < 900000) :
    ∃ m', PushRun l v 9 1 (pt0 k) m (4, ⟨k, 4, t, t + row.length, 0, true, true⟩, m') ∧ Dq l k m' t (row ++ [v]) ∧ Apart l k m m' := by
  have hb := h.big
  have ht := h.t0
  have hr := h.inb.room
  have hmt : Mod1 (ld m (l.top k)) := by rw [h.top]; exact mod1 (by omega) (by omega)
  have e1 : pushS l (pt0 k) v m = (⟨k, 1, 0, t + row.length, 0, false, false⟩, m) := by simp [pushS, h.bot]
  have e2 : pushS l ⟨k, 1, 0, t + row.length, 0, false, false⟩ v m = (⟨k, 2, t, t + row.length, 0, false, false⟩, m) := by
    have : ¬ l.room ≤ t + row.length - t := by omega
    simp [pushS, h.top, this]
  have e3 : pushS l ⟨k, 2, t, t + row.length, 0, false, false⟩ v m = (⟨k, 3, t, t + row.length, 0, false, false⟩, st m (l.slot k (t + row.length)) v) := by simp [pushS]
  have e4 : pushS l ⟨k, 3, t, t + row.length, 0, false, false⟩ v (st m (l.slot k (t + row.length)) v) = (⟨k, 4, t, t + row.length, 0, true, true⟩, st (st m (l.slot k (t + row.length)) v) (Go.Proofs.Ytlbhckndejldcaa.bot l k) (t + row.length + 1)) := by simp [pushS]
  refine ⟨_, .more ⟨h.inb.fit, fun _ => by simp, mod1 (by simp) (by simp), hmt, fun _ hh => by simp at hh⟩ e1 rfl (.more ⟨h.inb.fit, fun _ => by simp, mod1 (by simp only; omega) (by simp only; omega), hmt, fun _ hh => by simp at hh⟩ e2 rfl
    (.more ⟨h.inb.fit, fun _ => by simp, mod1 (by simp only; omega) (by simp only; omega), hmt, fun _ _ => by simp only; omega⟩ e3 rfl
      (.last ⟨h.inb.fit, fun _ => by simp, mod1 (by simp only; omega) (by simp only; omega), by rw [slot_top hr]; exact hmt, fun _ hh => by simp at hh⟩ e4 rfl))), ⟨?_, ?_, ?_, ht, ?_, fun i hi => ?_, ?_⟩, ?_⟩
  · exact (h.inb.st _ _).st _ _
  · rw [bot_top, slot_top hr, h.top]
  · rw [(h.inb.st _ _).st_bot]; simp; omega
  · simp; omega
  · rw [bot_slot hr]
    by_cases e : i = row.length
    · subst e; rw [h.inb.st_slot]; simp
    · have hi' : i < row.length := by simp at hi; omega
      rw [ld_st_other (Ne.symm (slot_ne hr k (t + i) (t + row.length) (by omega) (by omega))), h.slots i hi']
      simp [List.getD_eq_getElem?_getD, List.getElem?_append_left hi']
  · simp; omega
  · have := slotBd (l := l) (k := k) hr (t + row.length)
    exact ((Apart.refl l k m).st _ _ (by omega)).st _ _ (by unfold Go.Proofs.Ytlbhckndejldcaa.bot; omega)
theorem steal_none {l : Lay} {k t : Int} {m : List Int} (h : Dq l k m t []) :
    StealRun l 9 1 (pt0 k) false m (2, ⟨k, 2, t, t, 0, true, false⟩, false, m) := by
  have hb := h.big
  have ht := h.t0
  have hbot : ld m (Go.Proofs.Ytlbhckndejldcaa.bot l k) = t := by rw [h.bot]; simp
  simp at hb
  have e1 : stealS l (pt0 k) false m = (⟨k, 1, t, 0, 0, false, false⟩, false, m) := by simp [stealS, h.top]
  have e2 : stealS l ⟨k, 1, t, 0, 0, false, false⟩ false m = (⟨k, 2, t, t, 0, true, false⟩, false, m) := by simp [stealS, hbot]
  exact .more ⟨h.inb.fit, fun _ => by simp, mod1 (by simp) (by simp), fun _ hh => by simp at hh⟩ e1 rfl (.last ⟨h.inb.fit, fun _ => by simp, mod1 (by simp only; omega) (by simp only; omega), fun _ hh => by simp at hh⟩ e2 rfl)
theorem steal_some {l : Lay} {k t x : Int} {m row : List Int} (h : Dq l k m t (x :: row)) :
    ∃ m', StealRun l 9 1 (pt0 k) false m (4, ⟨k, 4, t, t + row.length + 1, x, true, true⟩, false, m') ∧ Dq l k m' (t + 1) row ∧ Apart l k m m' := by
  have hb := h.big
  have ht := h.t0
  have hr := h.inb.room
  have hrm := h.room
  have hbot : ld m (Go.Proofs.Ytlbhckndejldcaa.bot l k) = t + row.length + 1 := by rw [h.bot]; simp; omega
  have hx : ld m (l.slot k t) = x := by have := h.slots 0 (by simp); simpa using this
  simp at hb hrm
  have e1 : stealS l (pt0 k) false m = (⟨k, 1, t, 0, 0, false, false⟩, false, m) := by simp [stealS, h.top]
  have e2 : stealS l ⟨k, 1, t, 0, 0, false, false⟩ false m = (⟨k, 2, t, t + row.length + 1, 0, false, false⟩, false, m) := by
    have : ¬ t + (row.length : Int) + 1 ≤ t := by omega
    simp [stealS, hbot, this]
  have e3 : stealS l ⟨k, 2, t, t + row.length + 1, 0, false, false⟩ false m = (⟨k, 3, t, t + row.length + 1, x, false, false⟩, false, m) := by simp [stealS, hx]
  have hh : hits m (l.top k) t = true := decide_eq_true ⟨h.inb.lo, by have := h.inb.hi; omega, h.top⟩
  have e4 : stealS l ⟨k, 3, t, t + row.length + 1, x, false, false⟩ false m = (⟨k, 4, t, t + row.length + 1, x, true, true⟩, false, st m (l.top k) (t + 1)) := by simp [stealS, hh, casB]
  refine ⟨_, .more ⟨h.inb.fit, fun _ => by simp, mod1 (by simp) (by simp), fun _ hh => by simp at hh⟩ e1 rfl (.more ⟨h.inb.fit, fun _ => by simp, mod1 (by simp only; omega) (by simp only; omega), fun _ hh => by simp at hh⟩ e2 rfl
    (.more ⟨h.inb.fit, fun _ => by simp, mod1 (by simp only; omega) (by simp only; omega), fun _ _ => ht⟩ e3 rfl
      (.last ⟨h.inb.fit, fun _ => by simp, mod1 (by simp only; omega) (by simp only; omega), fun _ hh => by simp at hh⟩ e4 rfl))), ⟨h.inb.st _ _, h.inb.st_top _, ?_, by omega, by omega, fun i hi => ?_, by omega⟩, ?_⟩
  · rw [top_bot, hbot]; omega
  · rw [top_slot hr]
    have := h.slots (i + 1) (by simpa using hi)
    rw [show t + ((i + 1 : Nat) : Int) = t + 1 + i by omega] at this
    simpa using this
  · exact (Apart.refl l k m).st _ _ (by omega)
theorem pop_none {l : Lay} {k t : Int} {m : List Int} (h : Dq l k m t []) :
    ∃ m', PopRun l 9 1 (pt0 k) m (4, ⟨k, 4, t, t - 1, 0, true, false⟩, m') ∧ Dq l k m' t [] ∧ Apart l k m m' := by
  have hb := h.big
  have ht := h.t0
  have hr := h.inb.room
  have hbot : ld m (Go.Proofs.Ytlbhckndejldcaa.bot l k) = t := by rw [h.bot]; simp
  simp at hb
  have e1 : popS l (pt0 k) m = (⟨k, 1, 0, t - 1, 0, false, false⟩, m) := by simp [popS, hbot]
  have e2 : popS l ⟨k, 1, 0, t - 1, 0, false, false⟩ m = (⟨k, 2, 0, t - 1, 0, false, false⟩, st m (Go.Proofs.Ytlbhckndejldcaa.bot l k) (t - 1)) := by simp [popS]
  have e3 : popS l ⟨k, 2, 0, t - 1, 0, false, false⟩ (st m (Go.Proofs.Ytlbhckndejldcaa.bot l k) (t - 1)) = (⟨k, 3, t, t - 1, 0, false, false⟩, st m (Go.Proofs.Ytlbhckndejldcaa.bot l k) (t - 1)) := by simp [popS, bot_top, h.top]
  have e4 : popS l ⟨k, 3, t, t - 1, 0, false, false⟩ (st m (Go.Proofs.Ytlbhckndejldcaa.bot l k) (t - 1)) = (⟨k, 4, t, t - 1, 0, true, false⟩, st (st m (Go.Proofs.Ytlbhckndejldcaa.bot l k) (t - 1)) (Go.Proofs.Ytlbhckndejldcaa.bot l k) t) := by
    have : t - 1 < t := by omega
    simp [popS, this]
  have hm1 : Mod1 (ld m (Go.Proofs.Ytlbhckndejldcaa.bot l k)) := by rw [hbot]; exact mod1 (by omega) (by omega)
  have hm2 : Mod1 (ld (st m (Go.Proofs.Ytlbhckndejldcaa.bot l k) (t - 1)) (Go.Proofs.Ytlbhckndejldcaa.bot l k)) := by rw [h.inb.st_bot]; exact mod1 (by omega) (by omega)
  refine ⟨_, .more ⟨h.inb.fit, fun _ => by simp, mod1 (by simp) (by simp), mod1 (by simp) (by simp), hm1, fun _ hh => by simp at hh⟩ e1 rfl
    (.more ⟨h.inb.fit, fun _ => by simp, mod1 (by simp only; omega) (by simp only; omega), mod1 (by simp) (by simp), hm1, fun _ hh => by simp at hh⟩ e2 rfl
    (.more ⟨h.inb.fit, fun _ => by simp, mod1 (by simp only; omega) (by simp only; omega), mod1 (by simp) (by simp), hm2, fun _ hh => by simp at hh⟩ e3 rfl
    (.last ⟨h.inb.fit, fun _ => by simp, mod1 (by simp only; omega) (by simp only; omega), mod1 (by simp only; omega) (by simp only; omega), hm2, fun _ _ hh => by simp only at hh; omega⟩ e4 rfl))),
    ⟨(h.inb.st _ _).st _ _, by rw [bot_top, bot_top, h.top], by rw [(h.inb.st _ _).st_bot]; simp, ht, by simp; omega, fun i hi => by simp at hi, by simp; omega⟩,
    ((Apart.refl l k m).st _ _ (by unfold Go.Proofs.Ytlbhckndejldcaa.bot; omega)).st _ _ (by unfold Go.Proofs.Ytlbhckndejldcaa.bot; omega)⟩
theorem pop_one {l : Lay} {k t x : Int} {m : List Int} (h : Dq l k m t [x]) :
    ∃ m', PopRun l 9 1 (pt0 k) m (6, ⟨k, 6, t, t, x, true, true⟩, m') ∧ Dq l k m' (t + 1) [] ∧ Apart l k m m' := by
  have hb := h.big
  have ht := h.t0
  have hr := h.inb.room
  have hbot : ld m (Go.Proofs.Ytlbhckndejldcaa.bot l k) = t + 1 := by rw [h.bot]; simp
  have hx : ld m (l.slot k t) = x := by have := h.slots 0 (by simp); simpa using this
  simp at hb
  obtain ⟨m1, hm1e⟩ : ∃ m1, st m (Go.Proofs.Ytlbhckndejldcaa.bot l k) t = m1 := ⟨_, rfl⟩
  have i1 : InB l k m1 := by rw [← hm1e]; exact h.inb.st _ _
  have t1 : ld m1 (l.top k) = t := by rw [← hm1e, bot_top, h.top]
  have x1 : ld m1 (l.slot k t) = x := by rw [← hm1e, bot_slot hr, hx]
  have b1 : ld m1 (Go.Proofs.Ytlbhckndejldcaa.bot l k) = t := by rw [← hm1e, h.inb.st_bot]
  have e1 : popS l (pt0 k) m = (⟨k, 1, 0, t, 0, false, false⟩, m) := by simp [popS, hbot]
  have e2 : popS l ⟨k, 1, 0, t, 0, false, false⟩ m = (⟨k, 2, 0, t, 0, false, false⟩, m1) := by simp [popS, hm1e]
  have e3 : popS l ⟨k, 2, 0, t, 0, false, false⟩ m1 = (⟨k, 3, t, t, 0, false, false⟩, m1) := by simp [popS, t1]
  have e4 : popS l ⟨k, 3, t, t, 0, false, false⟩ m1 = (⟨k, 4, t, t, x, false, false⟩, m1) := by simp [popS, x1]
  have hh : hits m1 (l.top k) t = true := decide_eq_true ⟨h.inb.lo, by have := i1.hi; omega, t1⟩
  have e5 : popS l ⟨k, 4, t, t, x, false, false⟩ m1 = (⟨k, 5, t, t, x, false, true⟩, st m1 (l.top k) (t + 1)) := by simp [popS, hh, casB]
  have e6 : popS l ⟨k, 5, t, t, x, false, true⟩ (st m1 (l.top k) (t + 1)) = (⟨k, 6, t, t, x, true, true⟩, st (st m1 (l.top k) (t + 1)) (Go.Proofs.Ytlbhckndejldcaa.bot l k) (t + 1)) := by simp [popS]
  have o0 : Mod1 (ld m (Go.Proofs.Ytlbhckndejldcaa.bot l k)) := by rw [hbot]; exact mod1 (by omega) (by omega)
  have o1 : Mod1 (ld m1 (Go.Proofs.Ytlbhckndejldcaa.bot l k)) := by rw [b1]; exact mod1 (by omega) (by omega)
  have o2 : Mod1 (ld (st m1 (l.top k) (t + 1)) (Go.Proofs.Ytlbhckndejldcaa.bot l k)) := by rw [top_bot, b1]; exact mod1 (by omega) (by omega)
  refine ⟨_, .more ⟨h.inb.fit, fun _ => by simp, mod1 (by simp) (by simp), mod1 (by simp) (by simp), o0, fun _ hh => by simp at hh⟩ e1 rfl
    (.more ⟨h.inb.fit, fun _ => by simp, mod1 (by simp only; omega) (by simp only; omega), mod1 (by simp) (by simp), o0, fun _ hh => by simp at hh⟩ e2 rfl
    (.more ⟨h.inb.fit, fun _ => by simp, mod1 (by simp only; omega) (by simp only; omega), mod1 (by simp) (by simp), o1, fun _ hh => by simp at hh⟩ e3 rfl
    (.more ⟨h.inb.fit, fun _ => by simp, mod1 (by simp only; omega) (by simp only; omega), mod1 (by simp only; omega) (by simp only; omega), o1, fun _ _ _ => ht⟩ e4 rfl
    (.more ⟨h.inb.fit, fun _ => by simp, mod1 (by simp only; omega) (by simp only; omega), mod1 (by simp only; omega) (by simp only; omega), o1, fun _ hh => by simp at hh⟩ e5 rfl
    (.last ⟨h.inb.fit, fun _ => by simp, mod1 (by simp only; omega) (by simp only; omega), mod1 (by simp only; omega) (by simp only; omega), o2, fun _ hh => by simp at hh⟩ e6 rfl))))),
    ⟨(i1.st _ _).st _ _, by rw [bot_top, i1.st_top], by rw [(i1.st _ _).st_bot]; simp, by omega, by simp; omega, fun i hi => by simp at hi, by simp; omega⟩, ?_⟩
  rw [← hm1e]
  exact (((Apart.refl l k m).st _ _ (by unfold Go.Proofs.Ytlbhckndejldcaa.bot; omega)).st _ _ (by omega)).st _ _ (by unfold Go.Proofs.Ytlbhckndejldcaa.bot; omega)
theorem pop_more {l : Lay} {k t x : Int} {m row : List Int} (h : Dq l k m t (row ++ [x])) (hne : 0 < row.length) :
    ∃ m', PopRun l 9 1 (pt0 k) m (4, ⟨k, 4, t, t + row.length, x, true, true⟩, m') ∧ Dq l k m' t row ∧ Apart l k m m' := by
  have hb := h.big
  have ht := h.t0
  have hr := h.inb.room
  have hrm := h.room
  have hbot : ld m (Go.Proofs.Ytlbhckndejldcaa.bot l k) = t + row.length + 1 := by rw [h.bot]; simp; omega
  have hx : ld m (l.slot k (t + row.length)) = x := by have := h.slots row.length (by simp); simpa using this
  simp at hb hrm
  obtain ⟨m1, hm1e⟩ : ∃ m1, st m (Go.Proofs.Ytlbhckndejldcaa.bot l k) (t + row.length) = m1 := ⟨_, rfl⟩
  have i1 : InB l k m1 := by rw [← hm1e]; exact h.inb.st _ _
  have t1 : ld m1 (l.top k) = t := by rw [← hm1e, bot_top, h.top]
  have x1 : ld m1 (l.slot k (t + row.length)) = x := by rw [← hm1e, bot_slot hr, hx]
  have b1 : ld m1 (Go.Proofs.Ytlbhckndejldcaa.bot l k) = t + row.length := by rw [← hm1e, h.inb.st_bot]
  have e1 : popS l (pt0 k) m = (⟨k, 1, 0, t + row.length, 0, false, false⟩, m) := by simp [popS, hbot]
  have e2 : popS l ⟨k, 1, 0, t + row.length, 0, false, false⟩ m = (⟨k, 2, 0, t + row.length, 0, false, false⟩, m1) := by simp [popS, hm1e]
  have e3 : popS l ⟨k, 2, 0, t + row.length, 0, false, false⟩ m1 = (⟨k, 3, t, t + row.length, 0, false, false⟩, m1) := by simp [popS, t1]
  have e4 : popS l ⟨k, 3, t, t + row.length, 0, false, false⟩ m1 = (⟨k, 4, t, t + row.length, x, true, true⟩, m1) := by
    have h1 : ¬ t + (row.length : Int) < t := by omega
    have h2 : t < t + (row.length : Int) := by omega
    simp [popS, x1, h1, h2]
  have o0 : Mod1 (ld m (Go.Proofs.Ytlbhckndejldcaa.bot l k)) := by rw [hbot]; exact mod1 (by omega) (by omega)
  have o1 : Mod1 (ld m1 (Go.Proofs.Ytlbhckndejldcaa.bot l k)) := by rw [b1]; exact mod1 (by omega) (by omega)
  refine ⟨m1, .more ⟨h.inb.fit, fun _ => by simp, mod1 (by simp) (by simp), mod1 (by simp) (by simp), o0, fun _ hh => by simp at hh⟩ e1 rfl
    (.more ⟨h.inb.fit, fun _ => by simp, mod1 (by simp only; omega) (by simp only; omega), mod1 (by simp) (by simp), o0, fun _ hh => by simp at hh⟩ e2 rfl
    (.more ⟨h.inb.fit, fun _ => by simp, mod1 (by simp only; omega) (by simp only; omega), mod1 (by simp) (by simp), o1, fun _ hh => by simp at hh⟩ e3 rfl
    (.last ⟨h.inb.fit, fun _ => by simp, mod1 (by simp only; omega) (by simp only; omega), mod1 (by simp only; omega) (by simp only; omega), o1, fun _ _ _ => by simp only; omega⟩ e4 rfl))),
    ⟨i1, t1, b1, ht, by omega, fun i hi => ?_, by omega⟩, ?_⟩
  · rw [← hm1e, bot_slot hr, h.slots i (by simp; omega)]
    simp [List.getD_eq_getElem?_getD, List.getElem?_append_left hi]
  · rw [← hm1e]
    exact (Apart.refl l k m).st _ _ (by unfold Go.Proofs.Ytlbhckndejldcaa.bot; omega)
/-- what it holds is the row -/
theorem Dq.held {l : Lay} {k t : Int} {m row : List Int} (h : Dq l k m t row) : heldD l k m (heldN l k m) = row := by
  have hn : heldN l k m = row.length := by
    unfold heldN
    rw [h.top, h.bot]
    have := h.room
    omega
  rw [hn]
  apply List.ext_getElem?
  intro i
  unfold heldD
  rw [h.top]
  by_cases hi : i < row.length
  · have := h.slots i hi
    simp [hi, this, List.getD_eq_getElem?_getD]
  · simp [hi]
/-- another deque is as it was -/
theorem Dq.apart {l : Lay} {k k' t : Int} {m m' row : List Int} (h : Dq l k m t row) (a : Apart l k' m m') (hk : k < k' ∨ k' < k) : Dq l k m' t row := by
  have hr := h.inb.room
  have hm : k * (l.room + 2) + (l.room + 2) ≤ k' * (l.room + 2) ∨ k' * (l.room + 2) + (l.room + 2) ≤ k * (l.room + 2) := by
    rcases hk with hk | hk
    · left
      have : (k + 1) * (l.room + 2) ≤ k' * (l.room + 2) := Int.mul_le_mul_of_nonneg_right (by omega) (by omega)
      rw [Int.add_mul] at this; omega
    · right
      have : (k' + 1) * (l.room + 2) ≤ k * (l.room + 2) := Int.mul_le_mul_of_nonneg_right (by omega) (by omega)
      rw [Int.add_mul] at this; omega
  have out : ∀ i, l.top k ≤ i → i < l.top k + 2 + l.room → ld m' i = ld m i := fun i h0 h1 => a.2 i (by unfold Lay.top at *; omega)
  refine ⟨⟨h.inb.fit, by rw [a.1]; exact h.inb.hi⟩, by rw [out _ (by omega) (by omega)]; exact h.top, by rw [out _ (by unfold Go.Proofs.Ytlbhckndejldcaa.bot; omega) (by unfold Go.Proofs.Ytlbhckndejldcaa.bot; omega)]; exact h.bot, h.t0, h.room, fun i hi => ?_, h.big⟩
  have := slotBd (l := l) (k := k) hr (t + i)
  rw [out _ (by omega) (by omega)]; exact h.slots i hi
theorem inb_plan {v a k : Int} (h : May v a k) {i : Int} (h0 : 0 ≤ i) (h1 : i < k) {m : List Int} (hm : m.length = (planOf v a k).size.toNat) : InB (planOf v a k) i m := by
  obtain ⟨g1, g2, g3, g4, g5, g6⟩ := h
  have hr := (room_pow v).bd
  have h2 : (i + 1) * (roomOf v + 2) ≤ k * (roomOf v + 2) := Int.mul_le_mul_of_nonneg_right (by omega) (by omega)
  have h3 : 0 ≤ i * (roomOf v + 2) := Int.mul_nonneg h0 (by omega)
  rw [Int.add_mul] at h2
  refine ⟨⟨by show (0 : Int) ≤ a + 3 * v + 4; omega, by show a + 3 * v + 4 ≤ (50000 : Int); omega, room_pow v, h0, by omega⟩, ?_⟩
  rw [hm]
  show a + 3 * v + 4 + i * (roomOf v + 2) + 2 + roomOf v ≤ ((a + 3 * v + 4 + k * (roomOf v + 2)).toNat : Int)
  omega
theorem nin2 {a b c : Nat} (h1 : a ≠ b) (h2 : a ≠ c) : a ∉ [b, c] := by simp [h1, h2]
theorem nin1 {a b : Nat} (h1 : a ≠ b) : a ∉ [b] := by simp [h1]
/-- a new bank's deques hold nothing -/
theorem Dq.zero {l : Lay} {k : Int} {N : Nat} (h : InB l k (List.replicate N 0)) : Dq l k (List.replicate N 0) 0 [] := by
  have hz : ∀ i, ld (List.replicate N 0) i = 0 := fun i => by
    unfold ld
    split
    · simp [List.getD_eq_getElem?_getD, List.getElem?_replicate]; split <;> rfl
    · rfl
  exact ⟨h, hz _, by rw [hz]; simp, by omega, by have := h.room; simp; omega, fun i hi => by simp at hi, by simp⟩
end Go.Proofs.Ytlbhckndejldcaa
