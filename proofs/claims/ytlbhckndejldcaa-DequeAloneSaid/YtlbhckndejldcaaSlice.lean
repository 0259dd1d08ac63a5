/- Slices of numbers, wherever they lie; an owned row is one. -/
import Derived.Test.YtlbhckndejldcaaSmall
import Derived.Maps.AppendAt
namespace Go.Proofs.Ytlbhckndejldcaa
open Go.RowKit
set_option linter.unusedVariables false
/-- the slice v reads as the numbers xs; block g is where they lie -/
def SliceIs (w : World) (v : Value) (xs : List Int) : Prop :=
  (v = .slice none 0 0 ∧ xs = []) ∨ ∃ g off c, v = .slice (some ⟨g, off, none⟩) xs.length c ∧ g < w.heap.size ∧ ∀ i, i < xs.length → w.cell? ⟨g, off + i, none⟩ = some (.int .i64 (xs.getD i 0))
theorem Kept.cellx {L : List Nat} {w w' : World} (h : Kept L w w') {b i : Nat} {v : Value} (hb : b < w.heap.size) (hn : b ∉ L) (hc : w.cell? ⟨b, i, none⟩ = some v) : w'.cell? ⟨b, i, none⟩ = some v := by
  rw [World.cell?_of_block (w := w) (a := ⟨b, i, none⟩) (h.block b hb hn)]; exact hc
theorem SliceIs.keep {w w' : World} {v : Value} {xs : List Int} {L : List Nat} (h : SliceIs w v xs) (k : Kept L w w') (hn : ∀ g, v.ownBlock = some g → g ∉ L) : SliceIs w' v xs := by
  rcases h with h | ⟨g, off, c, rfl, hg, hc⟩
  · exact .inl h
  · exact .inr ⟨g, off, c, rfl, Nat.lt_of_lt_of_le hg k.size, fun i hi => k.cellx hg (hn g rfl) (hc i hi)⟩
theorem SliceIs.keep0 {w w' : World} {v : Value} {xs : List Int} (h : SliceIs w v xs) (k : Kept [] w w') : SliceIs w' v xs := h.keep k (by simp)
theorem SliceIs.of_row {w : World} {g c : Nat} {m : List Int} (h : RowIn w g m) : SliceIs w (.slice (some ⟨g, 0, none⟩) m.length c) m :=
  .inr ⟨g, 0, c, rfl, h.lt, fun i hi => by rw [Nat.zero_add]; exact h.cell i hi⟩
theorem SliceIs.of_rown {w : World} {g c n : Nat} {m : List Int} (hn : m.length = n) (h : RowIn w g m) : SliceIs w (.slice (some ⟨g, 0, none⟩) n c) m := by subst hn; exact .of_row h
theorem SliceIs.of_owned {w : World} {base : Nat} {e : TypeId} {v : Value} {xs : List Int} (h : w.ownsRow base e 1 v xs.length (xs.map (Value.int .i64))) : SliceIs w v xs := by
  have hb := h.lt
  have hcl := fun (g : Nat) (hg : v.ownBlock = some g) => h.cells hg
  rcases h.2 with ⟨rfl, h1⟩ | ⟨g, cap, cur, rfl, _⟩
  · exact .inl ⟨rfl, List.eq_nil_of_length_eq_zero h1⟩
  · refine .inr ⟨g, 0, cap, rfl, (hb g rfl).2, fun i hi => ?_⟩
    have := hcl g rfl i (.int .i64 (xs.getD i 0)) (by simp [hi])
    have e : (⟨g, 0, none⟩ : Addr).add i = ⟨g, 0 + i, none⟩ := by unfold Addr.add; split <;> simp_all
    rwa [e] at this
theorem SliceIs.len {w : World} {v : Value} {xs : List Int} (h : SliceIs w v xs) : ∃ a c, v = .slice a xs.length c := by
  rcases h with ⟨rfl, rfl⟩ | ⟨g, off, c, rfl, _⟩
  · exact ⟨_, _, rfl⟩
  · exact ⟨_, _, rfl⟩
theorem take_next (xs : List Int) (i : Nat) (d : Int) (h : i < xs.length) : xs.take (i + 1) = xs.take i ++ [xs.getD i d] := by
  rw [List.take_succ_eq_append_getElem h]; simp [h]
end Go.Proofs.Ytlbhckndejldcaa
