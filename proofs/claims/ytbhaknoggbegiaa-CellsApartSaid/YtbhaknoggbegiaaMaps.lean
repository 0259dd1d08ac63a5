/- Maps of numbers by numbers that a call makes: what each key holds, whether it is there, how many there are. -/
import Derived.Test.YtbhaknoggbegiaaSlice
import Derived.Maps.OwnSet
import Derived.Maps.RangeWalk
namespace Go.Proofs.Ytbhaknoggbegiaa
open Go.RowKit Go.Maps
set_option linter.unusedVariables false
theorem law34 : Keyed (Try.prog) 3 := int_keyed Try.underlying3
theorem zero34 (w : World) : (zeroValue 3).run Try.prog w = .ok (.int .i64 0) w := by kernel_rfl
/-- block b is a map of at most n entries; f: what a key holds (0 where it is not there); h: is it there? -/
structure MapIs (w : World) (b n : Nat) (f : Int → Int) (h : Int → Bool) (D : DataW Unit) : Prop where
  own : w.ownsMap (Try.prog) 3 (plainElem (Try.prog) 3) b n D
  at_ : ∀ x : Int, (Lit.int .i64 x).wf = true → D.atKey (.int .i64 x) (.lit (.int .i64 0)) = .lit (.int .i64 (f x))
  has_ : ∀ x : Int, (Lit.int .i64 x).wf = true → Maps.has D (.int .i64 x) = h x
theorem wf64 {x : Int} (h0 : -9223372036854775808 ≤ x) (h1 : x ≤ 9223372036854775807) : (Lit.int .i64 x).wf = true := WalkArith.wf_i64 (by omega)
theorem MapIs.made (w : World) : MapIs (w.alloc (.map #[] 0)) w.heap.size 0 (fun _ => 0) (fun _ => false) (.map []) :=
  ⟨World.ownsMap_made _ _ _ _, fun _ _ => rfl, fun _ _ => rfl⟩
theorem MapIs.keep {L : List Nat} {w w' : World} {b n : Nat} {f : Int → Int} {h : Int → Bool} {D : DataW Unit} (m : MapIs w b n f h D) (k : Kept L w w') (hn : b ∉ L) : MapIs w' b n f h D := by
  refine ⟨?_, m.at_, m.has_⟩
  obtain ⟨es, clock, hb, F, hs, hD⟩ := m.own
  exact ⟨es, clock, k.get hb hn, F, hs, hD⟩
theorem MapIs.lt {w : World} {b n : Nat} {f : Int → Int} {h : Int → Bool} {D : DataW Unit} (m : MapIs w b n f h D) : b < w.heap.size := m.own.lt
/-- m[x] -/
theorem MapIs.look {w : World} {b n : Nat} {f : Int → Int} {h : Int → Bool} {D : DataW Unit} (m : MapIs w b n f h D) {x : Int} (hx : (Lit.int .i64 x).wf = true) :
    (Instr.lookup 34 (.map (some b)) (.int .i64 x) false).run Try.prog w = .ok (.int .i64 (f x)) w := by
  obtain ⟨c, hrun, hat, _⟩ := m.own.lookup_int law34 Try.underlying34 Try.underlying3 (zero34 w) (keyOf_int_mk Try.underlying3 hx)
  rw [m.at_ x hx] at hat
  cases hat
  exact hrun
theorem MapIs.put {w : World} {b n : Nat} {f : Int → Int} {h : Int → Bool} {D : DataW Unit} (m : MapIs w b n f h D) {x v : Int} (hx : (Lit.int .i64 x).wf = true)
    {w' : World} (ho : w'.ownsMap (Try.prog) 3 (plainElem (Try.prog) 3) b (n + 1) (D.put (.int .i64 x) (.lit (.int .i64 v)))) :
    MapIs w' b (n + 1) (fun y => if y = x then v else f y) (fun y => if y = x then true else h y) (D.put (.int .i64 x) (.lit (.int .i64 v))) := by
  have hD : Maps.IsMap D := by
    obtain ⟨es, clock, hb, F, hs, hD⟩ := m.own
    exact ⟨_, hD⟩
  have hk : WideAt.IsKeyLit (.int .i64 x) := trivial
  refine ⟨ho, fun y hy => ?_, fun y hy => ?_⟩
  · by_cases e : y = x
    · subst e; rw [if_pos rfl]; exact atKey_put_same hD hk _ _
    · rw [if_neg e, atKey_put_other (by simpa using e)]; exact m.at_ y hy
  · by_cases e : y = x
    · subst e; rw [if_pos rfl]; exact has_put_same hD hk _
    · rw [if_neg e, has_put_other (by simpa using e)]; exact m.has_ y hy
/-- m[x] = v, at the operation -/
theorem wpList_put (w : World) {ops : Array Oper} {rest : List Oper} {o : Oper} {a : Act} {Q : Exit → Act → World → Prop}
    (hg : o.guard = none) (mo xo vo : Operand) (hop : o.op = Op.mapUpdate 34 mo xo vo)
    (b n : Nat) (f : Int → Int) (h : Int → Bool) (D : DataW Unit) (hm : a.eval mo = .map (some b)) (m : MapIs w b n f h D) (hn : n < maxLen) (x v : Int) (hx : a.eval xo = .int .i64 x) (hv : a.eval vo = .int .i64 v)
    (wx : (Lit.int .i64 x).wf = true) (wv : (Lit.int .i64 v).wf = true)
    (hK : ∀ w' D', Kept [b] w w' → MapIs w' b (n + 1) (fun y => if y = x then v else f y) (fun y => if y = x then true else h y) D' → wpList Try.prog ops Q rest (a.put o.dst undef) w') :
    wpList Try.prog ops Q (o :: rest) a w := by
  refine wpList_mapUpdate_own w hg mo xo vo 34 hop 3 3 law34 Try.underlying34 _ b n D hm m.own hn _ _ _ hx hv (keyOf_int_mk Try.underlying3 wx) _ [] (plainElem_int Try.underlying3 wv) ?_
  intro w' ho hgr
  exact hK w' _ (by have := Kept.grown hgr; simpa using this) (m.put wx ho)
/-! ### counting over a walk of the entries -/
def cntL (q : Nat → Bool) : Nat → Nat
  | 0 => 0
  | k + 1 => cntL q k + (if q k = true then 1 else 0)
theorem cntL_congr {q q' : Nat → Bool} {n : Nat} (h : ∀ j, j < n → q j = q' j) : cntL q n = cntL q' n := by
  induction n with
  | zero => rfl
  | succ k ih => rw [cntL, cntL, ih (fun j hj => h j (by omega)), h k (by omega)]
theorem cntL_le (q : Nat → Bool) (n : Nat) : cntL q n ≤ n := by
  induction n with
  | zero => exact Nat.le_refl _
  | succ k ih => rw [cntL]; split <;> omega
theorem cntL_set {q q' : Nat → Bool} {n x : Nat} (hx : x < n) (h0 : q x = false) (h1 : q' x = true) (h : ∀ j, j < n → j ≠ x → q j = q' j) : cntL q' n = cntL q n + 1 := by
  induction n with
  | zero => omega
  | succ k ih =>
    rw [cntL, cntL]
    by_cases e : x = k
    · subst e
      rw [h0, h1, cntL_congr (q := q) (q' := q') (n := x) (fun j hj => h j (by omega) (by omega))]
      simp
    · rw [ih (by omega) (fun j hj hne => h j (by omega) hne), h k (by omega) (fun e' => e e'.symm)]
      omega
theorem same_int (x y : Int) : (Lit.int .i64 x).sameKey (Lit.int .i64 y) = decide (x = y) := by
  by_cases e : x = y
  · subst e; simp [Lit.sameKey]
  · rw [decide_eq_false e]; exact sameKey_ne (by simpa using e)
/-- of the keys below n that hold more than nothing: those that have come -/
def come (f : Int → Int) (h : Int → Bool) (left : Lit → Bool) (j : Nat) : Bool := decide (0 < f (j : Int)) && (h (j : Int) && !left (.int .i64 (j : Int)))
theorem come_start {w : World} {b e n : Nat} {f : Int → Int} {h : Int → Bool} {D : DataW Unit} (m : MapIs w b e f h D) (hn : n ≤ 1000000) : cntL (come f h (Maps.has D)) n = 0 := by
  have : cntL (come f h (Maps.has D)) n = cntL (fun _ => false) n := cntL_congr (fun j hj => by
    unfold come; rw [m.has_ _ (wf64 (by omega) (by omega))]; cases h (j : Int) <;> simp)
  rw [this]
  induction n with
  | zero => rfl
  | succ k ih => rw [cntL, ih (by omega) (cntL_congr (fun j hj => by
      unfold come; rw [m.has_ _ (wf64 (by omega) (by omega))]; cases h (j : Int) <;> simp))]; rfl
theorem come_step {f : Int → Int} {h : Int → Bool} {left : Lit → Bool} {n : Nat} {x : Int} (hl : left (.int .i64 x) = true) (hh : h x = true) (hp : 0 < f x) (h0 : 0 ≤ x) (h1 : x < n) :
    cntL (come f h (fun z => left z && !z.sameKey (.int .i64 x))) n = cntL (come f h left) n + 1 := by
  obtain ⟨j, rfl⟩ := Int.eq_ofNat_of_zero_le h0
  refine cntL_set (x := j) (by omega) ?_ ?_ (fun i _ hne => ?_)
  · unfold come; simp [hl]
  · unfold come; simp [hl, hh, hp, same_int]
  · unfold come; simp only [same_int]; rw [decide_eq_false (show ¬ (i : Int) = (j : Int) by omega)]; simp
theorem come_skip {f : Int → Int} {h : Int → Bool} {left : Lit → Bool} {n : Nat} {x : Int} (hp : ¬ 0 < f x) :
    cntL (come f h (fun z => left z && !z.sameKey (.int .i64 x))) n = cntL (come f h left) n := by
  refine cntL_congr (fun i _ => ?_)
  unfold come
  by_cases e : (i : Int) = x
  · rw [e, decide_eq_false hp]; rfl
  · simp only [same_int]; rw [decide_eq_false e]; simp
theorem come_end {f : Int → Int} {h : Int → Bool} {left : Lit → Bool} {n : Nat} (hl : ∀ kl, left kl = false) (hh : ∀ y, f y ≠ 0 → h y = true) (h0 : ∀ y, 0 ≤ f y) :
    cntL (come f h left) n = cntL (fun j => decide (f (j : Int) ≠ 0)) n := by
  refine cntL_congr (fun i _ => ?_)
  unfold come
  rw [hl]
  by_cases e : f (i : Int) = 0
  · simp [e]
  · have := h0 (i : Int)
    rw [hh _ e, decide_eq_true (show 0 < f (i : Int) by omega), decide_eq_true e]; rfl
end Go.Proofs.Ytbhaknoggbegiaa
