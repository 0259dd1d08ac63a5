/- Claims stepped: the ways a law meets; a plan of law 12. -/
import Derived.Test.YtklkopoelhndoaaFlags4
namespace Go.Proofs.Ytklkopoelhndoaa
open Go.RowKit
set_option linter.unusedVariables false
theorem c93_yes (P B D : Nat) (m : List Int) (cell : Int) (w : World) (h : ClaimAt w P cell false false) (hb : BankAt w B D m) (hPB : P ≠ B) (hPD : P ≠ D) (hh : hits m cell 0 = true) :
    Calls Try.prog 44 #[.pointer (some ⟨P, 0, none⟩), .pointer (some ⟨B, 0, none⟩)] w fun e w' => e = .returned (.bool true) ∧ Kept [P, D] w w' ∧ ClaimAt w' P cell true true ∧ BankAt w' B D (st m cell 1) := by
  refine (c93 P B D m cell false false w h hb hPB hPD).mono ?_
  rintro e w' ⟨rfl, h1, h2, h3⟩
  refine ⟨rfl, h1, ?_, ?_⟩
  · simpa [hh] using h2
  · simpa [hh] using h3
theorem c93_no (P B D : Nat) (m : List Int) (cell : Int) (w : World) (h : ClaimAt w P cell false false) (hb : BankAt w B D m) (hPB : P ≠ B) (hPD : P ≠ D) (hh : hits m cell 0 = false) :
    Calls Try.prog 44 #[.pointer (some ⟨P, 0, none⟩), .pointer (some ⟨B, 0, none⟩)] w fun e w' => e = .returned (.bool true) ∧ Kept [P, D] w w' ∧ ClaimAt w' P cell true false ∧ BankAt w' B D m := by
  refine (c93 P B D m cell false false w h hb hPB hPD).mono ?_
  rintro e w' ⟨rfl, h1, h2, h3⟩
  refine ⟨rfl, h1, ?_, ?_⟩
  · simpa [hh] using h2
  · simpa [hh] using h3
theorem c93_done (P B D : Nat) (m : List Int) (cell : Int) (g : Bool) (w : World) (h : ClaimAt w P cell true g) (hb : BankAt w B D m) (hPB : P ≠ B) (hPD : P ≠ D) :
    Calls Try.prog 44 #[.pointer (some ⟨P, 0, none⟩), .pointer (some ⟨B, 0, none⟩)] w fun e w' => e = .returned (.bool true) ∧ Kept [P, D] w w' ∧ ClaimAt w' P cell true g ∧ BankAt w' B D m := by
  refine (c93 P B D m cell true g w h hb hPB hPD).mono ?_
  rintro e w' ⟨rfl, h1, h2, h3⟩
  exact ⟨rfl, h1, by simpa using h2, by simpa using h3⟩
/-- what is known of a plan of law 12 -/
structure Lay12 (l : Lay) (n : Nat) : Prop where
  verts : l.verts = (n : Int)
  n0 : 1 ≤ n
  n1 : n ≤ 30
  f0 : 0 ≤ l.flag
  f1 : l.flag ≤ 100000
  s0 : 0 ≤ l.size
  s1 : l.size ≤ 524288
  fs : l.flag + n ≤ l.size
theorem lay12 {n : Nat} (h0 : 1 ≤ n) (h1 : n ≤ 30) : Lay12 (planOf n 3 2) n := by
  have hr := (room_pow (n : Int)).bd
  have hm : May (n : Int) 3 2 := ⟨by omega, by omega, by omega, by omega, by omega, by omega⟩
  obtain ⟨s0, s1⟩ := plan_size hm
  refine ⟨rfl, h0, h1, ?_, ?_, s0, s1, ?_⟩
  · show (0 : Int) ≤ 3 + 2 * n; omega
  · show (3 : Int) + 2 * n ≤ 100000; omega
  · show (3 : Int) + 2 * n + n ≤ 3 + 3 * n + 4 + 2 * (roomOf n + 2); omega
/-- all flags are down -/
def Down (l : Lay) (n : Nat) (m : List Int) : Prop := ∀ j : Nat, j < n → ld m (l.flag + j) = 0
theorem ld_zeros (N : Nat) (i : Int) : ld (List.replicate N 0) i = 0 := by
  unfold ld; split
  · simp [List.getD_eq_getElem?_getD, List.getElem?_replicate]; split <;> rfl
  · rfl
theorem Down.held {l : Lay} {n : Nat} {m : List Int} (h : Down l n m) : heldUp l.flag m n = [] := by
  suffices ∀ k, k ≤ n → heldUp l.flag m k = [] from this n (Nat.le_refl _)
  intro k
  induction k with
  | zero => intro _; rfl
  | succ k ih => intro hk; rw [heldUp_yes (h k (by omega))]; exact ih (by omega)
theorem st_back {m : List Int} {i : Int} (h0 : 0 ≤ i) (h1 : i < m.length) (h : ld m i = 0) : st (st m i 1) i 0 = m := by
  refine ext_ld (by simp [st_length]) (fun j _ => ?_)
  by_cases e : i = j
  · subst e; rw [ld_st_same h0 (by rw [st_length]; exact h1), h]
  · rw [ld_st_other e, ld_st_other e]
theorem new_alloc2 (w : World) (a o : Obj) : ((w.alloc a).alloc o).heap[w.heap.size + 1]? = some o := by have := new_alloc (w.alloc a) o; have e : (w.alloc a).heap.size = w.heap.size + 1 := (by simp); rwa [e] at this
theorem nin2 {a b c : Nat} (h1 : a ≠ b) (h2 : a ≠ c) : a ∉ [b, c] := by simp [h1, h2]
theorem nin1 {a b : Nat} (h1 : a ≠ b) : a ∉ [b] := by simp [h1]
theorem in2 {b c s : Nat} (hb : s ≤ b) (hc : s ≤ c) (x : Nat) (hx : x ∈ [b, c]) : x ∈ ([] : List Nat) ∨ s ≤ x := .inr (by simp at hx; omega)
theorem in1 {b s : Nat} (hb : s ≤ b) (x : Nat) (hx : x ∈ [b]) : x ∈ ([] : List Nat) ∨ s ≤ x := .inr (by simp at hx; omega)
end Go.Proofs.Ytklkopoelhndoaa
