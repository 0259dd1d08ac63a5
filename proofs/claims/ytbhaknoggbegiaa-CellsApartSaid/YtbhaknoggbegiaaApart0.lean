/- Maps that count: which keys hold one; how many there are. -/
import Derived.Test.YtbhaknoggbegiaaMaps
import Derived.Maps.Views
import Derived.Test.YtbhaknoggbegiaaAwake10
import Derived.Test.YtbhaknoggbegiaaLayPut
namespace Go.Proofs.Ytbhaknoggbegiaa
open Go.RowKit Go.Maps
set_option linter.unusedVariables false
structure MapP (w : World) (b n : Nat) (p : Int → Bool) (D : DataW Unit) : Prop where
  is : MapIs w b n (fun x => if p x = true then 1 else 0) p D
  size : Maps.size D = n
def addP (p : Int → Bool) (x : Int) : Int → Bool := fun y => decide (y = x) || p y
/-- the first t numbers -/
def pre (t : Int) : Int → Bool := fun x => decide (0 ≤ x ∧ x < t)
theorem pre_no {t x : Int} (h : ¬ (0 ≤ x ∧ x < t)) : pre t x = false := decide_eq_false h
theorem pre_add {t x : Int} (h : x = t) (h0 : 0 ≤ t) : addP (pre t) x = pre (t + 1) := by
  funext y
  unfold addP pre
  rw [← Bool.decide_or]
  exact decide_eq_decide.2 (by omega)
theorem MapP.look0 {w : World} {b n : Nat} {p : Int → Bool} {D : DataW Unit} (m : MapP w b n p D) {x : Int} (hx : (Lit.int .i64 x).wf = true) (hp : p x = false) :
    (Instr.lookup 34 (.map (some b)) (.int .i64 x) false).run Try.prog w = .ok (.int .i64 0) w := by
  have := m.is.look hx
  simpa [hp] using this
theorem MapP.made (w : World) : MapP (w.alloc (.map #[] 0)) w.heap.size 0 (pre 0) (.map []) := by
  have h := MapIs.made w
  refine ⟨⟨h.own, fun x hx => ?_, fun x hx => ?_⟩, rfl⟩
  · rw [h.at_ x hx, pre_no (by omega)]; rfl
  · rw [h.has_ x hx, pre_no (by omega)]
theorem MapP.keep {L : List Nat} {w w' : World} {b n : Nat} {p : Int → Bool} {D : DataW Unit} (m : MapP w b n p D) (k : Kept L w w') (hn : b ∉ L) : MapP w' b n p D := ⟨m.is.keep k hn, m.size⟩
theorem wpList_putP (w : World) {ops : Array Oper} {rest : List Oper} {o : Oper} {a : Act} {Q : Exit → Act → World → Prop}
    (hg : o.guard = none) (mo xo vo : Operand) (hop : o.op = Op.mapUpdate 34 mo xo vo)
    (b n : Nat) (p : Int → Bool) (D : DataW Unit) (hm : a.eval mo = .map (some b)) (m : MapP w b n p D) (hn : n < maxLen) (x : Int) (hx : a.eval xo = .int .i64 x) (hv : a.eval vo = .int .i64 1)
    (wx : (Lit.int .i64 x).wf = true) (hp : p x = false)
    (hK : ∀ w' D', Kept [b] w w' → MapP w' b (n + 1) (addP p x) D' → wpList Try.prog ops Q rest (a.put o.dst undef) w') :
    wpList Try.prog ops Q (o :: rest) a w := by
  refine wpList_mapUpdate_own w hg mo xo vo 34 hop 3 3 law34 Try.underlying34 _ b n D hm m.is.own hn _ _ _ hx hv (keyOf_int_mk Try.underlying3 wx) _ [] (plainElem_int Try.underlying3 (by decide)) ?_
  intro w' ho hgr
  refine hK w' (D.put (.int .i64 x) (.lit (.int .i64 1))) (by have := Kept.grown hgr; simpa using this) ⟨?_, ?_⟩
  · have h := m.is.put wx ho
    refine ⟨h.own, fun y hy => ?_, fun y hy => ?_⟩
    · rw [h.at_ y hy]
      by_cases e : y = x
      · subst e; simp [addP]
      · simp [addP, e]
    · rw [h.has_ y hy]
      by_cases e : y = x
      · subst e; simp [addP]
      · simp [addP, e]
  · rw [size_put (m.is.own.tidy law34), m.is.has_ x wx, hp, m.size]; rfl
structure ApInv (l : Lay) (P M : Nat) (w wr : World) (n : Nat) (p : Int → Bool) (D : DataW Unit) : Prop where
  map : MapP wr M n p D
  kept : Kept [] w wr
  plan : wr.heap[P]? = some (.cells l.cells 24 (0, 0))
theorem ApInv.keep {l : Lay} {P M : Nat} {w wr w' : World} {n : Nat} {p : Int → Bool} {D : DataW Unit} (i : ApInv l P M w wr n p D) (k : Kept [] wr w') : ApInv l P M w w' n p D :=
  ⟨i.map.keep k (by simp), i.kept.trans k, k.get i.plan (by simp)⟩
theorem ApInv.put {l : Lay} {P M : Nat} {w wr w' : World} {n n' : Nat} {p p' : Int → Bool} {D D' : DataW Unit} (i : ApInv l P M w wr n p D) (k : Kept [M] wr w') (m : MapP w' M n' p' D') (hM : w.heap.size ≤ M) (hP : P ≠ M) : ApInv l P M w w' n' p' D' :=
  ⟨m, i.kept.drop k (fun x hx => .inr (by simp at hx; omega)), k.get i.plan (by simpa using hP)⟩
theorem ApInv.as {l : Lay} {P M : Nat} {w wr : World} {n n' : Nat} {p p' : Int → Bool} {D : DataW Unit} (i : ApInv l P M w wr n p D) (hn : n = n') (hp : p = p') : ApInv l P M w wr n' p' D := by subst hn hp; exact i
/-- of each vertex three cells -/
def trip (a v i : Int) : Int → Bool := fun x => decide ((0 ≤ x ∧ x < a + i) ∨ (a + v ≤ x ∧ x < a + v + i) ∨ (a + 2 * v ≤ x ∧ x < a + 2 * v + i))
theorem trip_start (a v : Int) (ha : 0 ≤ a) (hv : 0 ≤ v) : pre a = trip a v 0 := by
  funext y; exact decide_eq_decide.2 (by omega)
theorem trip_end (a v : Int) (ha : 0 ≤ a) (hv : 0 ≤ v) : trip a v v = pre (a + 3 * v) := by
  funext y; exact decide_eq_decide.2 (by omega)
theorem trip_step (a v i x y z : Int) (ha : 0 ≤ a) (h0 : 0 ≤ i) (h1 : i < v) (hx : x = a + i) (hy : y = a + v + i) (hz : z = a + 2 * v + i) : addP (addP (addP (trip a v i) x) y) z = trip a v (i + 1) := by
  funext t
  unfold addP trip
  rw [← Bool.decide_or, ← Bool.decide_or, ← Bool.decide_or]
  exact decide_eq_decide.2 (by omega)
theorem trip_no1 {a v i x : Int} (ha : 0 ≤ a) (h0 : 0 ≤ i) (h1 : i < v) (hx : x = a + i) : trip a v i x = false := decide_eq_false (by omega)
theorem trip_no2 {a v i x y : Int} (ha : 0 ≤ a) (h0 : 0 ≤ i) (h1 : i < v) (hx : x = a + i) (hy : y = a + v + i) : addP (trip a v i) x y = false := by
  unfold addP trip; rw [← Bool.decide_or]; exact decide_eq_false (by omega)
theorem trip_no3 {a v i x y z : Int} (ha : 0 ≤ a) (h0 : 0 ≤ i) (h1 : i < v) (hx : x = a + i) (hy : y = a + v + i) (hz : z = a + 2 * v + i) : addP (addP (trip a v i) x) y z = false := by
  unfold addP trip; rw [← Bool.decide_or, ← Bool.decide_or]; exact decide_eq_false (by omega)
/-- the plan's numbers, as bounds -/
structure LA (l : Lay) (v a k R : Nat) : Prop where
  room : l.room = (R : Int)
  res : 0 ≤ l.res ∧ l.res ≤ 0
  ex : (a : Int) ≤ l.ex ∧ l.ex ≤ a
  h : (a : Int) + v ≤ l.h ∧ l.h ≤ a + v
  flag : (a : Int) + 2 * v ≤ l.flag ∧ l.flag ≤ a + 2 * v
  pending : (a : Int) + 3 * v ≤ l.pending ∧ l.pending ≤ a + 3 * v
  ask : (a : Int) + 3 * v + 1 ≤ l.ask ∧ l.ask ≤ a + 3 * v + 1
  count : (a : Int) + 3 * v + 2 ≤ l.count ∧ l.count ≤ a + 3 * v + 2
  sense : (a : Int) + 3 * v + 3 ≤ l.sense ∧ l.sense ≤ a + 3 * v + 3
  deques : (a : Int) + 3 * v + 4 ≤ l.deques ∧ l.deques ≤ a + 3 * v + 4
  size : l.size = l.top k
  sb : 0 ≤ l.size ∧ l.size ≤ 524288
  r : 1 ≤ R ∧ R ≤ 4096
  rv : v ≤ R
  pow : Pow l.room
theorem la (v a k : Nat) (hv : v ≤ 40) (ha : a ≤ 90) (hk0 : 1 ≤ k) (hk : k ≤ 9) : ∃ R, LA (planOf v a k) v a k R := by
  have hr := (room_pow (v : Int)).bd
  have hm : May (v : Int) a k := ⟨by omega, by omega, by omega, by omega, by omega, by omega⟩
  obtain ⟨s0, s1⟩ := plan_size hm
  have hge' : (v : Int) ≤ roomOf (v : Int) := room_ge (by omega)
  obtain ⟨R, hR⟩ := Int.eq_ofNat_of_zero_le (show 0 ≤ roomOf (v : Int) by omega)
  refine ⟨R, ⟨hR, ⟨Int.le_refl _, Int.le_refl _⟩, ⟨Int.le_refl _, Int.le_refl _⟩, ?_, ?_, ?_, ?_, ?_, ?_, ?_, rfl, ⟨s0, s1⟩, by omega, by omega, room_pow _⟩⟩
  all_goals (simp only [planOf]; omega)
theorem LA.fit {l : Lay} {v a k R : Nat} (h : LA l v a k R) (hv : v ≤ 40) (ha : a ≤ 90) {i : Nat} (hi : i < k) (hk : k ≤ 9) : Fit l i :=
  ⟨by have := h.deques; omega, by have := h.deques; omega, h.pow, by omega, by omega⟩
theorem top_next (l : Lay) (k : Int) : l.top (k + 1) = l.top k + (l.room + 2) := by unfold Lay.top; rw [Int.add_mul]; omega
theorem top_zero (l : Lay) : l.top 0 = l.deques := by unfold Lay.top; omega
theorem top_le {l : Lay} {v a k R : Nat} (h : LA l v a k R) {i : Nat} (hi : i < k) : l.top i + (R + 2) ≤ l.size := by
  have e : l.top (i : Int) + (l.room + 2) = l.top ((i : Int) + 1) := (top_next l i).symm
  rw [h.room] at e
  rw [e, h.size]
  unfold Lay.top
  have hr := h.r
  have hrm := h.room
  have : ((i : Int) + 1) * (l.room + 2) ≤ (k : Int) * (l.room + 2) := Int.mul_le_mul_of_nonneg_right (by omega) (by omega)
  omega
theorem mod_room {i R : Nat} (m : Int) (hi : i < R) (x : Int) (hx : x = (i : Int) + m * R) : x % (R : Int) = i := by
  subst hx
  rw [Int.add_mul_emod_self_right]
  exact Int.emod_eq_of_lt (by omega) (by omega)
end Go.Proofs.Ytbhaknoggbegiaa
