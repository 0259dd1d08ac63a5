/- What the deque's machines tell, with what it comes to as a letter. -/
import Derived.Test.YtlbhckndejldcaaDRow
namespace Go.Proofs.Ytlbhckndejldcaa
open Go.RowKit
set_option linter.unusedVariables false
theorem d109_at (X : Nat) (l : Lay) (p : Pt) (v : Int) (w : World) (r : Bool) (h : PushAt w X l p v) (hr : (p.done && p.got) = r) :
    Calls Try.prog 36 #[.pointer (some ⟨X, 0, none⟩)] w fun e w' => e = .returned (.bool r) ∧ w = w' := by
  subst hr; exact d109 X 79 _ l p w h (DC.push l p v)
theorem d71_at (X : Nat) (l : Lay) (p : Pt) (w : World) (z : Int) (r : Bool) (h : PopAt w X l p) (hz : (if p.done && p.got then p.x else 0) = z) (hr : (p.done && p.got) = r) :
    Calls Try.prog 28 #[.pointer (some ⟨X, 0, none⟩)] w fun e w' => e = .returned (.tuple #[.int .i64 z, .bool r]) ∧ w = w' := by
  subst hr hz; exact d71 X 59 _ l p w h (DC.pop l p)
theorem d68_at (X : Nat) (l : Lay) (p : Pt) (s : Bool) (w : World) (z : Int) (r : Bool) (h : StealAt w X l p s) (hz : (if p.done && p.got then p.x else 0) = z) (hr : (p.done && p.got) = r) :
    Calls Try.prog 25 #[.pointer (some ⟨X, 0, none⟩)] w fun e w' => e = .returned (.tuple #[.int .i64 z, .bool r]) ∧ w = w' := by
  subst hr hz; exact d68 X 53 _ l p w h (DC.steal l p s)
theorem d110_at (X : Nat) (l : Lay) (p : Pt) (s : Bool) (w : World) (h : StealAt w X l p s) :
    Calls Try.prog 37 #[.pointer (some ⟨X, 0, none⟩)] w fun e w' => e = .returned (.bool s) ∧ w = w' := d110 X 53 _ s w h rfl
theorem pop_some {l : Lay} {k t z : Int} {m r : List Int} (h : Dq l k m t (r ++ [z])) :
    ∃ (n : Int) (p : Pt) (m' : List Int) (t' : Int), 0 < n ∧ PopRun l 9 1 (pt0 k) m (n, p, m') ∧ (if p.done && p.got then p.x else 0) = z ∧ (p.done && p.got) = true ∧ Dq l k m' t' r ∧ Apart l k m m' ∧ t' + r.length ≤ t + r.length + 1 := by
  by_cases hr : r = []
  · subst hr
    obtain ⟨m', h1, h2, h3⟩ := pop_one (x := z) (by simpa using h)
    exact ⟨_, _, m', t + 1, by omega, h1, rfl, rfl, h2, h3, by simp⟩
  · obtain ⟨m', h1, h2, h3⟩ := pop_more h (List.length_pos_iff.2 hr)
    exact ⟨_, _, m', t, by omega, h1, rfl, rfl, h2, h3, by omega⟩
theorem row_last {row : List Int} (h : 0 < row.length) : ∃ r z, row = r ++ [z] := by
  cases e : row.reverse with
  | nil => have := congrArg List.length e; rw [List.length_reverse, List.length_nil] at this; omega
  | cons z r => exact ⟨r.reverse, z, by have := congrArg List.reverse e; simpa using this⟩
end Go.Proofs.Ytlbhckndejldcaa
