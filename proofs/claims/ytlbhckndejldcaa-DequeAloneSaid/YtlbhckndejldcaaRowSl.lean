/- A list of numbers of the call's own, that is appended to, and cut at either end. -/
import Derived.Test.YtlbhckndejldcaaAll
import Derived.Test.YtlbhckndejldcaaSlice
import Derived.Test.YtlbhckndejldcaaRef
import Derived.Test.YtlbhckndejldcaaOpen
import Derived.ArgAppend
namespace Go.Proofs.Ytlbhckndejldcaa
open Go.RowKit
set_option linter.unusedVariables false
/-- v is a list of the numbers xs, in a block of its own from base on, of which it may write -/
def RowSl (w : World) (base : Nat) (v : Value) (xs : List Int) : Prop :=
  (v = .slice none 0 0 ∧ xs = []) ∨ ∃ (b off cap : Nat) (c : Array Value), v = .slice (some ⟨b, off, none⟩) xs.length cap ∧ w.heap[b]? = some (.cells c 2 (0, 0)) ∧ xs.length ≤ cap ∧ off + cap ≤ c.size ∧ base ≤ b ∧ cap ≤ maxLen ∧ ∀ i, i < xs.length → c[off + i]? = some (.int .i64 (xs.getD i 0))
theorem RowSl.nil (w : World) (base : Nat) : RowSl w base (.slice none 0 0) [] := .inl ⟨rfl, rfl⟩
theorem RowSl.keep {w w' : World} {base : Nat} {v : Value} {xs : List Int} {L : List Nat} (h : RowSl w base v xs) (k : Kept L w w') (hn : ∀ g, base ≤ g → g < w.heap.size → g ∉ L) : RowSl w' base v xs := by
  rcases h with h | ⟨b, off, cap, c, rfl, h1, h2, h3, h4, h5⟩
  · exact .inl h
  · exact .inr ⟨b, off, cap, c, rfl, k.get h1 (hn b h4 (lt_of_heap h1)), h2, h3, h4, h5⟩
theorem RowSl.keep0 {w w' : World} {base : Nat} {v : Value} {xs : List Int} (h : RowSl w base v xs) (k : Kept [] w w') : RowSl w' base v xs := h.keep k (fun _ _ _ => by simp)
theorem RowSl.is {w : World} {base : Nat} {v : Value} {xs : List Int} (h : RowSl w base v xs) : SliceIs w v xs := by
  rcases h with h | ⟨b, off, cap, c, rfl, h1, h2, h3, h4, h5, h6⟩
  · exact .inl h
  · exact .inr ⟨b, off, cap, rfl, lt_of_heap h1, fun i hi => by rw [cells_of h1]; exact h6 i hi⟩
/-- the first one, cut off -/
theorem RowSl.tail {w : World} {base : Nat} {x : Int} {xs : List Int} {b off cap : Nat} {c : Array Value} (h1 : w.heap[b]? = some (.cells c 2 (0, 0))) (h2 : (x :: xs).length ≤ cap) (h3 : off + cap ≤ c.size) (h4 : base ≤ b) (h5 : cap ≤ maxLen)
    (h6 : ∀ i, i < (x :: xs).length → c[off + i]? = some (.int .i64 ((x :: xs).getD i 0))) : RowSl w base (.slice (some ⟨b, off + 1, none⟩) xs.length (cap - 1)) xs := by
  simp only [List.length_cons] at h2 h6
  refine .inr ⟨b, off + 1, cap - 1, c, rfl, h1, by omega, by omega, h4, by omega, fun i hi => ?_⟩
  have := h6 (i + 1) (by omega)
  rw [show off + 1 + i = off + (i + 1) by omega, this]; rfl
/-- the last one, cut off -/
theorem RowSl.init {w : World} {base : Nat} {x : Int} {xs : List Int} {b off cap : Nat} {c : Array Value} (h1 : w.heap[b]? = some (.cells c 2 (0, 0))) (h2 : (xs ++ [x]).length ≤ cap) (h3 : off + cap ≤ c.size) (h4 : base ≤ b) (h5 : cap ≤ maxLen)
    (h6 : ∀ i, i < (xs ++ [x]).length → c[off + i]? = some (.int .i64 ((xs ++ [x]).getD i 0))) : RowSl w base (.slice (some ⟨b, off, none⟩) xs.length cap) xs := by
  simp only [List.length_append, List.length_singleton] at h2 h6
  refine .inr ⟨b, off, cap, c, rfl, h1, by omega, h3, h4, h5, fun i hi => ?_⟩
  have := h6 i (by omega)
  rw [this]
  simp [List.getD_eq_getElem?_getD, List.getElem?_append_left hi]
theorem store_mid1 {w : World} {b : Nat} {c : Array Value} {t : TypeId} (h : w.heap[b]? = some (.cells c t (0, 0))) (o : Nat) (y : Int) :
    (w.setCells b o [.int .i64 y]).heap[b]? = some (.cells (c.setIfInBounds o (.int .i64 y)) t (0, 0)) := set_of h o _
/-- w' is w but for blocks from base on -/
def KeptFrom (base : Nat) (w w' : World) : Prop := ∃ L, Kept L w w' ∧ ∀ x, x ∈ L → base ≤ x
theorem KeptFrom.get {base : Nat} {w w' : World} (h : KeptFrom base w w') {b : Nat} {o : Obj} (hb : w.heap[b]? = some o) (hl : b < base) : w'.heap[b]? = some o := by
  obtain ⟨L, k, hL⟩ := h
  exact k.get hb (fun hm => by have := hL _ hm; omega)
theorem KeptFrom.bank {base : Nat} {w w' : World} (h : KeptFrom base w w') {B D : Nat} {m : List Int} (hb : BankAt w B D m) (h1 : B < base) (h2 : D < base) : BankAt w' B D m := by
  obtain ⟨L, k, hL⟩ := h
  exact hb.keep k (fun hm => by have := hL _ hm; omega) (fun hm => by have := hL _ hm; omega)
theorem KeptFrom.drop {base : Nat} {w0 w w' : World} (h : KeptFrom base w w') (k0 : Kept [] w0 w) (hs : w0.heap.size ≤ base) : Kept [] w0 w' := by
  obtain ⟨L, k, hL⟩ := h
  exact k0.drop k (fun x hx => .inr (by have := hL x hx; omega))
theorem KeptFrom.size {base : Nat} {w w' : World} (h : KeptFrom base w w') : w.heap.size ≤ w'.heap.size := by
  obtain ⟨L, k, hL⟩ := h
  exact k.size
theorem wpList_append_row {ops : Array Oper} {rest : List Oper} {o : Oper} {a : Act} {Q : Exit → Act → World → Prop} (w : World) (hg : o.guard = none) (s x : Operand) (ho : o.op = .call { callee := .builtin .append, args := #[s, x], argTypes := #[25, 25] })
    (base : Nat) (v : Value) (xs : List Int) (y : Int) (p q : Nat) (c : Nat) (hs : a.eval s = v) (hx : a.eval x = .slice (some ⟨p, q, none⟩) 1 c) (h : RowSl w base v xs) (hbase : base ≤ w.heap.size) (hy : w.cell? ⟨p, q, none⟩ = some (.int .i64 y)) (hN : xs.length ≤ 100000)
    (hK : ∀ v' w', RowSl w' base v' (xs ++ [y]) → KeptFrom base w w' → wpList Try.prog ops Q rest (a.put o.dst v') w') : wpList Try.prog ops Q (o :: rest) a w := by
  obtain ⟨i0, hi, hz0, hz1, hz2⟩ := info_parts info2
  have hc : ∀ j u, [Value.int .i64 y][j]? = some u → w.cell? ((⟨p, q, none⟩ : Addr).add j) = some u := by
    intro j u hj
    match j, hj with
    | 0, hj =>
      have e : (⟨p, q, none⟩ : Addr).add 0 = ⟨p, q, none⟩ := by rw [addr_add]; rfl
      rw [e, hy]; simpa using hj
    | j + 1, hj => simp at hj
  have h1c : ∀ u ∈ [Value.int .i64 y], u.oneCell' = true := by intro u hu; simp at hu; subst hu; rfl
  have grown : ∀ v' w' (olds : List Value), olds = xs.map (Value.int .i64) → w'.ownsRow w.heap.size 2 1 v' (xs.length + 1) (olds ++ [.int .i64 y]) → w.grownBy w' none → RowSl w' base v' (xs ++ [y]) ∧ KeptFrom base w w' := by
    intro v' w' olds ho hown hgr
    refine ⟨?_, [], Kept.grown hgr, by simp⟩
    rcases hown.2 with ⟨_, h0⟩ | ⟨g, cap, cur, rfl, hb, hh, hn, hm, hsz, ht⟩
    · omega
    · refine .inr ⟨g, 0, cap, cur, by simp, hh, by simpa using hn, by omega, by omega, hm, fun i hi => ?_⟩
      rw [Nat.zero_add, take_get ht i (by simpa using hi), ho]
      rw [show xs.map (Value.int .i64) ++ [Value.int .i64 y] = (xs ++ [y]).map (Value.int .i64) by simp]
      simp only [List.length_append, List.length_singleton] at hi
      rw [List.getElem?_map, List.getElem?_eq_getElem (by simp; omega)]
      simp [List.getD_eq_getElem?_getD, List.getElem?_eq_getElem (show i < (xs ++ [y]).length by simp; omega)]
  rcases h with ⟨rfl, rfl⟩ | ⟨b, off, cap, cs, rfl, h1, h2, h3, h4, h5, h6⟩
  · refine wpList_append_grows w hg s x 25 ho 2 i0 (.int .i64 0) 1 8 Try.underlying25 hi hz0 hz1 hz2 rfl (by decide) none 0 0 [] hs (fun _ => ⟨rfl, rfl⟩) rfl (fun _ h => by cases h) ⟨p, q, none⟩ 1 c [.int .i64 y] hx rfl hc h1c (by omega) (by unfold maxLen; omega) (by omega) (fun v' w' ho' hg' => ?_)
    obtain ⟨r1, r2⟩ := grown v' w' [] rfl ho' hg'
    exact hK v' w' r1 r2
  · refine wpList_append_arg w hg s x 25 ho 2 i0 (.int .i64 0) 1 8 Try.underlying25 hi hz0 hz1 hz2 rfl (by decide) b off xs.length cap (xs.map (Value.int .i64)) hs (by simp) (fun j u hj => ?_) ⟨p, q, none⟩ 1 c [.int .i64 y] hx rfl hc h1c (fun hr j hj => ?_) (by unfold maxLen; omega) (by omega) (fun hr => ?_) (fun _ v' w' ho' hg' => ?_)
    · rw [cells_of h1]
      have hjl : j < xs.length := by have := (List.getElem?_eq_some_iff.1 hj).1; simpa using this
      rw [h6 j hjl]
      simp only [List.getElem?_map, List.getElem?_eq_getElem hjl, Option.map_some, Option.some.injEq] at hj
      rw [← hj]; simp [hjl]
    · simp at hj; subst hj
      rw [cells_of h1, free_of h1]
      exact ⟨by simp; omega, rfl⟩
    · have hst := store_mid1 h1 (off + xs.length * 1) y
      exact hK _ _ (.inr ⟨b, off, cap, _, by simp, hst, by simpa using hr, by simp; omega, h4, h5, fun i hi => by
        simp only [List.length_append, List.length_singleton] at hi
        by_cases e : i = xs.length
        · subst e
          rw [Nat.mul_one, Array.getElem?_setIfInBounds_self_of_lt (by omega)]
          simp
        · rw [Nat.mul_one, Array.getElem?_setIfInBounds_ne (by omega), h6 i (by omega)]
          simp [List.getD_eq_getElem?_getD, List.getElem?_append_left (show i < xs.length by omega)]⟩)
        ⟨[b], (Kept.refl _ _).setCell (.inl (by simp)) _, by simp; exact h4⟩
    · obtain ⟨r1, r2⟩ := grown v' w' _ rfl ho' hg'
      exact hK v' w' r1 r2
end Go.Proofs.Ytlbhckndejldcaa
