/- Which flags are up, as a list; a row of the call's own as long as it is kept. -/
import Derived.Test.YtklkopoelhndoaaFlags5
import Derived.Test.YtklkopoelhndoaaInts
import Derived.Test.YtklkopoelhndoaaAwake12
import Derived.Deep.RegionLawGrows
import Derived.BigQuiet
namespace Go.Proofs.Ytklkopoelhndoaa
open Go.RowKit Go.ChangeShapes Go.WideShapes
set_option linter.unusedVariables false
theorem openInts80 {H : Type} {enc : TypeId × Value → H} {W : World} {a : Option Addr} {len cap : Nat} {d : DataW H} {p : List MemPlace}
    (h : DataW.Trod enc Try.prog W 0 (fun _ => true) true 23 (.slice a len cap) d p) : ∃ f, Ints .u8 W a len cap f := openInts Try.underlying23 Try.underlying5 (by kernel_rfl) h
/-- the flags of just these are up -/
def Up (l : Lay) (n : Nat) (m : List Int) (p : Nat → Bool) : Prop := ∀ j : Nat, j < n → (ld m (l.flag + j) = 0 ↔ p j = false)
def upList (p : Nat → Bool) : Nat → List Int
  | 0 => []
  | k + 1 => if p k then upList p k ++ [(k : Int)] else upList p k
theorem Up.held {l : Lay} {n : Nat} {m : List Int} {p : Nat → Bool} (h : Up l n m p) : heldUp l.flag m n = upList p n := by
  suffices ∀ k, k ≤ n → heldUp l.flag m k = upList p k from this n (Nat.le_refl _)
  intro k
  induction k with
  | zero => intro _; rfl
  | succ k ih =>
    intro hk
    rw [upList]
    cases hp : p k
    · rw [heldUp_yes ((h k (by omega)).2 hp), if_neg (by decide)]; exact ih (by omega)
    · rw [heldUp_no (fun e => by rw [(h k (by omega)).1 e] at hp; cases hp), if_pos rfl, ih (by omega)]
theorem upList_len (p : Nat → Bool) (k : Nat) : (upList p k).length ≤ k := by
  induction k with
  | zero => simp [upList]
  | succ k ih =>
    rw [upList]; split
    · simp; omega
    · omega
theorem upList_mem (p : Nat → Bool) (k : Nat) (x : Int) (h : x ∈ upList p k) : ∃ j : Nat, x = (j : Int) ∧ j < k ∧ p j = true := by
  induction k with
  | zero => simp [upList] at h
  | succ k ih =>
    rw [upList] at h
    by_cases hp : p k = true
    rotate_left
    · rw [if_neg hp] at h
      obtain ⟨j, e, hj, hq⟩ := ih h
      exact ⟨j, e, by omega, hq⟩
    · rw [if_pos hp] at h
      rcases List.mem_append.1 h with h | h
      · obtain ⟨j, e, hj, hq⟩ := ih h
        exact ⟨j, e, by omega, hq⟩
      · simp at h; exact ⟨k, h, by omega, hp⟩
/-- without one of them -/
theorem upList_drop (p : Nat → Bool) (k i : Nat) (hi : i < (upList p k).length) : ∃ j : Nat, (upList p k).getD i 0 = (j : Int) ∧ j < k ∧ p j = true ∧
    upList (fun x => if x = j then false else p x) k = (upList p k).take i ++ (upList p k).drop (i + 1) := by
  induction k with
  | zero => simp [upList] at hi
  | succ k ih =>
    rw [upList] at hi ⊢
    have same : ∀ (j : Nat), k ≤ j → upList (fun x => if x = j then false else p x) k = upList p k := by
      intro j hj
      have : ∀ q, q ≤ k → upList (fun x => if x = j then false else p x) q = upList p q := by
        intro q
        induction q with
        | zero => intro _; rfl
        | succ q ihq => intro hq; rw [upList, upList, ihq (by omega), if_neg (show ¬ q = j by omega)]
      exact this k (Nat.le_refl _)
    by_cases hp : p k = true
    rotate_left
    · rw [if_neg hp] at hi ⊢
      obtain ⟨j, e, hj, hq, hl⟩ := ih hi
      refine ⟨j, e, by omega, hq, ?_⟩
      rw [upList, hl, if_neg (show ¬ (if k = j then false else p k) = true by rw [if_neg (by omega)]; exact hp)]
    · rw [if_pos hp] at hi ⊢
      by_cases hlt : i < (upList p k).length
      · obtain ⟨j, e, hj, hq, hl⟩ := ih hlt
        refine ⟨j, ?_, by omega, hq, ?_⟩
        · rw [← e]; simp [List.getD_eq_getElem?_getD, List.getElem?_append_left hlt]
        · rw [upList, hl, if_neg (show ¬ k = j by omega), if_pos hp, List.take_append_of_le_length (by omega), List.drop_append_of_le_length (by omega), List.append_assoc]
      · have he : i = (upList p k).length := by simp at hi; omega
        refine ⟨k, ?_, by omega, hp, ?_⟩
        · rw [he]; simp [List.getD_eq_getElem?_getD]
        · rw [upList, if_pos rfl, same k (Nat.le_refl _), he]
          simp
theorem upList_all (n : Nat) (p : Nat → Bool) (h : ∀ j, j < n → p j = true) : (upList p n).length = n := by
  induction n with
  | zero => rfl
  | succ k ih => rw [upList, if_pos (h k (by omega))]; simp [ih (fun j hj => h j (by omega))]
theorem Up.st0 {l : Lay} {n : Nat} {m : List Int} {p : Nat → Bool} {j : Nat} (h : Up l n m p) (hj : j < n) (h0 : 0 ≤ l.flag) (h1 : l.flag + n ≤ m.length) :
    Up l n (st m (l.flag + j) 0) (fun x => if x = j then false else p x) := by
  intro x hx
  by_cases e : x = j
  · subst e; rw [ld_st_same (by omega) (by omega)]; simp
  · rw [ld_st_other (by omega)]; simpa [e] using h x hx
theorem Up.st1 {l : Lay} {n : Nat} {m : List Int} {p : Nat → Bool} {j : Nat} (h : Up l n m p) (hj : j < n) (h0 : 0 ≤ l.flag) (h1 : l.flag + n ≤ m.length) :
    Up l n (st m (l.flag + j) 1) (fun x => if x = j then true else p x) := by
  intro x hx
  by_cases e : x = j
  · subst e; rw [ld_st_same (by omega) (by omega)]; simp
  · rw [ld_st_other (by omega)]; simpa [e] using h x hx
theorem upList_range (n : Nat) (p : Nat → Bool) (h : ∀ j, j < n → p j = true) : upList p n = (List.range n).map (fun j : Nat => (j : Int)) := by
  induction n with
  | zero => rfl
  | succ k ih => rw [upList, if_pos (h k (by omega)), ih (fun j hj => h j (by omega)), List.range_succ, List.map_append]; rfl
theorem ownsRow_keep {L : List Nat} {w w' : World} {base size n : Nat} {e : TypeId} {v : Value} {xs : List Value} (h : w.ownsRow base e size v n xs) (k : Kept L w w') (hn : ∀ g, v.ownBlock = some g → g ∉ L) : w'.ownsRow base e size v n xs := by
  refine ⟨h.1, ?_⟩
  rcases h.2 with h | ⟨g, cap, cur, rfl, hb, hg, h1, h2, h3, h4⟩
  · exact .inl h
  · exact .inr ⟨g, cap, cur, rfl, hb, k.get hg (hn g rfl), h1, h2, h3, h4⟩
/-- a list of numbers: its block, its capacity at least its length -/
def LeftIs (w : World) (base : Nat) (v : Value) (xs : List Int) : Prop :=
  ∃ g c, v = .slice (some ⟨g, 0, none⟩) xs.length c ∧ base ≤ g ∧ xs.length ≤ c ∧ c ≤ maxLen ∧ SliceIs w v xs
theorem LeftIs.keep {L : List Nat} {w w' : World} {base : Nat} {v : Value} {xs : List Int} (h : LeftIs w base v xs) (k : Kept L w w') (hn : ∀ x, x ∈ L → x < base) : LeftIs w' base v xs := by
  obtain ⟨g, c, rfl, hb, h1, h2, h3⟩ := h
  exact ⟨g, c, rfl, hb, h1, h2, h3.keep k (fun g' hg' hm => by simp [Value.ownBlock] at hg'; have := hn _ hm; omega)⟩
theorem LeftIs.of_owned {w : World} {base : Nat} {e : TypeId} {v : Value} {xs : List Int} (h : w.ownsRow base e 1 v xs.length (xs.map (Value.int .i64))) (h0 : 0 < xs.length) : LeftIs w base v xs := by
  have hs := SliceIs.of_owned h
  rcases h.2 with ⟨rfl, h1⟩ | ⟨g, cap, cur, rfl, hb, hg, h1, h2, h3, h4⟩
  · omega
  · exact ⟨g, cap, rfl, hb, h1, h2, hs⟩
theorem LeftIs.cell {w : World} {g c n base : Nat} {xs : List Int} (h : LeftIs w base (.slice (some ⟨g, 0, none⟩) n c) xs) (i : Nat) (hi : i < xs.length) : w.cell? ⟨g, i, none⟩ = some (.int .i64 (xs.getD i 0)) := by
  obtain ⟨g', c', e, hb, h1, h2, h3⟩ := h
  cases e
  rcases h3 with ⟨h, _⟩ | ⟨g2, off, c2, e, hg, hc⟩
  · cases h
  · cases e; have := hc i hi; rwa [Nat.zero_add] at this
theorem LeftIs.lt {w : World} {g c n base : Nat} {xs : List Int} (h : LeftIs w base (.slice (some ⟨g, 0, none⟩) n c) xs) : g < w.heap.size ∧ base ≤ g ∧ n = xs.length ∧ xs.length ≤ c ∧ c ≤ maxLen := by
  obtain ⟨g', c', e, hb, h1, h2, h3⟩ := h
  cases e
  rcases h3 with ⟨h, _⟩ | ⟨g2, off, c2, e, hg, hc⟩
  · cases h
  · cases e; exact ⟨hg, hb, rfl, h1, h2⟩
theorem grown_low {base : Nat} {X : Nat → Prop} {w w' : World} {v : Value} (h : w.grownBy w' v.ownBlock) (hl : ∀ g, v.ownBlock = some g → base ≤ g ∧ X g) :
    ∃ L : List Nat, Kept L w w' ∧ (∀ z, z < base → z ∉ L) ∧ (∀ z, z ∈ L → base ≤ z) :=
  ⟨v.ownBlock.toList, Kept.grown h, fun z hz hm => by have := (hl z (by simpa using hm)).1; omega, fun z hm => (hl z (by simpa using hm)).1⟩
theorem LeftIs.keepn {L : List Nat} {w w' : World} {base g n c : Nat} {xs : List Int} (h : LeftIs w base (.slice (some ⟨g, 0, none⟩) n c) xs) (k : Kept L w w') (hn : g ∉ L) : LeftIs w' base (.slice (some ⟨g, 0, none⟩) n c) xs := by
  obtain ⟨g', c', e, hb, h1, h2, h3⟩ := h
  exact ⟨g', c', e, hb, h1, h2, h3.keep k (fun g' hg' hm => by simp [Value.ownBlock] at hg'; subst hg'; exact hn hm)⟩
theorem LeftIs.takes {w : World} {g c n base : Nat} {xs : List Int} (h : LeftIs w base (.slice (some ⟨g, 0, none⟩) n c) xs) (i : Nat) :
    ∀ j u, ((xs.take i).map (Value.int .i64))[j]? = some u → w.cell? ((⟨g, 0, none⟩ : Addr).add j) = some u := by
  intro j u hj
  simp [List.getElem?_take] at hj
  obtain ⟨_, x, hx, rfl⟩ := hj
  have hl := (List.getElem?_eq_some_iff.1 hx).1
  have := h.cell j hl
  rw [addr_add, Nat.zero_add, this, List.getD_eq_getElem?_getD, hx]
  rfl
theorem LeftIs.drops {w : World} {g c n base : Nat} {xs : List Int} (h : LeftIs w base (.slice (some ⟨g, 0, none⟩) n c) xs) (i : Nat) :
    ∀ j u, ((xs.drop i).map (Value.int .i64))[j]? = some u → w.cell? ((⟨g, i, none⟩ : Addr).add j) = some u := by
  intro j u hj
  simp at hj
  obtain ⟨x, hx, rfl⟩ := hj
  have hl := (List.getElem?_eq_some_iff.1 hx).1
  have := h.cell (i + j) hl
  rw [addr_add, this, List.getD_eq_getElem?_getD, hx]
  rfl
theorem LeftIs.cut {w : World} {g c n base i : Nat} {xs : List Int} (h : LeftIs w base (.slice (some ⟨g, 0, none⟩) n c) xs) (hi : i ≤ xs.length) : LeftIs w base (.slice (some ⟨g, 0, none⟩) i i) (xs.take i) := by
  have hl : (xs.take i).length = i := by simp; omega
  refine ⟨g, i, by rw [hl], h.lt.2.1, by omega, by have := h.lt; omega, .inr ⟨g, 0, i, by rw [hl], h.lt.1, fun j hj => ?_⟩⟩
  rw [Nat.zero_add, h.cell j (by omega)]
  rw [hl] at hj
  simp [List.getD_eq_getElem?_getD, hj]
theorem setCells_nil (w : World) (b o : Nat) : w.setCells b o [] = w := by
  cases w; rfl
end Go.Proofs.Ytklkopoelhndoaa
