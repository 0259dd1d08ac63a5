/- Words that all walks of this seat share: which blocks a step may turn, a bank's cells, a layout's fourteen numbers. -/
import Derived.WalkKit
import Derived.WalkSpells
import Derived.WalkLawsBesides
import Derived.KernelRfl
import Derived.Deep.Draws
import Derived.Deep.QuietTactic
import Derived.BigQuiet
namespace Go.Proofs.Ytlbhckndejldcaa
open Go.RowKit

theorem hid {p : Prop} (h : p) : Hid p := h

/-- w' is w but for new blocks, and for what the blocks of L hold. -/
structure Kept (L : List Nat) (w w' : World) : Prop where
  os : w'.os = w.os
  tape : w'.tape = w.tape
  output : w'.output = w.output
  size : w.heap.size ≤ w'.heap.size
  block : ∀ k, k < w.heap.size → k ∉ L → w'.heap[k]? = w.heap[k]?

theorem Kept.refl (L : List Nat) (w : World) : Kept L w w := ⟨rfl, rfl, rfl, Nat.le_refl _, fun _ _ _ => rfl⟩
theorem Kept.trans {L : List Nat} {a b c : World} (h : Kept L a b) (k : Kept L b c) : Kept L a c :=
  ⟨k.os.trans h.os, k.tape.trans h.tape, k.output.trans h.output, Nat.le_trans h.size k.size,
   fun i hi hn => (k.block i (Nat.lt_of_lt_of_le hi h.size) hn).trans (h.block i hi hn)⟩
theorem Kept.mono {L M : List Nat} {w w' : World} (h : Kept L w w') (hs : ∀ k, k ∈ L → k ∈ M) : Kept M w w' :=
  ⟨h.os, h.tape, h.output, h.size, fun k hk hn => h.block k hk (fun hl => hn (hs k hl))⟩
theorem Kept.of_nil {M : List Nat} {w w' : World} (h : Kept [] w w') : Kept M w w' := h.mono (by simp)
/-- what is new in a world is nobody's but the call's own: writes to it are no writes to what was there -/
theorem Kept.drop {L M : List Nat} {a w w' : World} (h : Kept L a w) (k : Kept M w w') (hM : ∀ x, x ∈ M → x ∈ L ∨ a.heap.size ≤ x) : Kept L a w' :=
  ⟨k.os.trans h.os, k.tape.trans h.tape, k.output.trans h.output, Nat.le_trans h.size k.size,
   fun i hi hn => (k.block i (Nat.lt_of_lt_of_le hi h.size) (fun hm => (hM i hm).elim (fun h1 => hn h1) (fun h1 => by omega))).trans (h.block i hi hn)⟩
theorem Kept.get {L : List Nat} {w w' : World} (h : Kept L w w') {b : Nat} {o : Obj} (hb : w.heap[b]? = some o) (hn : b ∉ L) : w'.heap[b]? = some o := by
  have hlt : b < w.heap.size := (Array.getElem?_eq_some_iff.1 hb).1
  rw [h.block b hlt hn]; exact hb
theorem Kept.drew {L : List Nat} {a w : World} (h : Kept L a w) : Kept L a w.drew := ⟨h.os, h.tape, h.output, h.size, h.block⟩
theorem Kept.drewN {L : List Nat} {a w : World} (h : Kept L a w) (n : Nat) : Kept L a (w.drewN n) := ⟨h.os, h.tape, h.output, h.size, h.block⟩
theorem Kept.alloc {L : List Nat} {a w : World} (h : Kept L a w) (o : Obj) : Kept L a (w.alloc o) :=
  h.trans ⟨rfl, rfl, rfl, by simp, fun k hk _ => Below.heap_alloc _ _ _ hk⟩
theorem Kept.setCell {L : List Nat} {a w : World} (h : Kept L a w) {p : Addr} (hp : p.block ∈ L ∨ a.heap.size ≤ p.block) (u : Value) : Kept L a (w.setCell p u) :=
  ⟨h.os, h.tape, h.output, by rw [World.size_setCell]; exact h.size, fun k hk hn => by
    rw [Below.heap_setCell _ _ _ _ (fun e => by subst e; exact hp.elim (fun h1 => hn h1) (fun h1 => by omega))]; exact h.block k hk hn⟩
theorem Kept.below {L : List Nat} {w w' : World} (h : Kept L w w') {B : Nat} (hB : B ≤ w.heap.size) (hL : ∀ k, k ∈ L → B ≤ k) : Below B w w' :=
  ⟨h.os, h.tape, h.output, h.size, fun k hk => h.block k (by omega) (fun hm => by have := hL k hm; omega)⟩
theorem Kept.grown {w w' : World} {r : Option Nat} (h : w.grownBy w' r) : Kept r.toList w w' :=
  ⟨h.os, h.tape, h.output, h.size, fun k hk hn => h.block k hk (fun e => hn (by rw [← e]; simp))⟩

theorem lt_of_heap {w : World} {b : Nat} {o : Obj} (h : w.heap[b]? = some o) : b < w.heap.size := (Array.getElem?_eq_some_iff.1 h).1

/-- the cells of a block, as rules for the walk -/
theorem cells_of {w : World} {b : Nat} {c : Array Value} {t : TypeId} (h : w.heap[b]? = some (.cells c t (0, 0))) : ∀ i, w.cell? ⟨b, i, none⟩ = c[i]? := by
  intro i; simp [World.cell?, h]
theorem free_of {w : World} {b : Nat} {c : Array Value} {t : TypeId} (h : w.heap[b]? = some (.cells c t (0, 0))) : ∀ i, w.frozen? ⟨b, i, none⟩ = false := by
  intro i; simp [World.frozen?, h]
/-- a block behind a store into it -/
theorem set_of {w : World} {b : Nat} {c : Array Value} {t : TypeId} (h : w.heap[b]? = some (.cells c t (0, 0))) (i : Nat) (v : Value) :
    (w.setCell ⟨b, i, none⟩ v).heap[b]? = some (.cells (c.setIfInBounds i v) t (0, 0)) := by
  simp [World.setCell, Array.getElem?_modify, h]
theorem other_set {w : World} {b : Nat} {o : Obj} (h : w.heap[b]? = some o) (p : Addr) (v : Value) (hn : b ≠ p.block) : (w.setCell p v).heap[b]? = some o := by
  rw [Below.heap_setCell _ _ _ _ hn]; exact h
theorem old_alloc {w : World} {b : Nat} {o : Obj} (h : w.heap[b]? = some o) (x : Obj) : (w.alloc x).heap[b]? = some o := by
  rw [Below.heap_alloc _ _ _ (lt_of_heap h)]; exact h
theorem new_alloc (w : World) (x : Obj) : (w.alloc x).heap[w.heap.size]? = some x := heap_alloc_new w x

/-- numbers as cells -/
def i64s (m : List Int) : Array Value := (m.map (Value.int .i64)).toArray
theorem i64s_get (m : List Int) (i : Nat) : (i64s m)[i]? = (m[i]?).map (Value.int .i64) := by simp [i64s]
theorem i64s_set (m : List Int) (i : Nat) (x : Int) : (i64s m).setIfInBounds i (.int .i64 x) = i64s (m.set i x) := by
  simp [i64s, List.map_set]
theorem i64s_size (m : List Int) : (i64s m).size = m.length := by simp [i64s]

/-- a bank: its head's block B, its cells' block D -/
structure BankAt (w : World) (B D : Nat) (m : List Int) : Prop where
  head : w.heap[B]? = some (.cells #[.slice (some ⟨D, 0, none⟩) m.length m.length] 148 (0, 0))
  data : w.heap[D]? = some (.cells (i64s m) 159 (0, 0))
  ne : B ≠ D
  le : m.length ≤ 524288
theorem BankAt.keep {w w' : World} {B D : Nat} {m : List Int} {L : List Nat} (h : BankAt w B D m) (k : Kept L w w') (hB : B ∉ L) (hD : D ∉ L) : BankAt w' B D m :=
  ⟨k.get h.head hB, k.get h.data hD, h.ne, h.le⟩
theorem BankAt.ltB {w : World} {B D : Nat} {m : List Int} (h : BankAt w B D m) : B < w.heap.size := lt_of_heap h.head
theorem BankAt.ltD {w : World} {B D : Nat} {m : List Int} (h : BankAt w B D m) : D < w.heap.size := lt_of_heap h.data

/-- what a cell has; a bank of which a cell has another thing -/
def ld (m : List Int) (i : Int) : Int := if 0 ≤ i ∧ i < m.length then m.getD i.toNat 0 else 0
def st (m : List Int) (i v : Int) : List Int := if 0 ≤ i ∧ i < m.length then m.set i.toNat v else m
theorem st_length (m : List Int) (i v : Int) : (st m i v).length = m.length := by unfold st; split <;> simp

/-- a layout's numbers -/
structure Lay where
  (verts arcs workers room res ex h flag pending ask count sense deques size : Int)
@[reducible] def Lay.cells (l : Lay) : Array Value := #[.int .i64 l.verts, .int .i64 l.arcs, .int .i64 l.workers, .int .i64 l.room, .int .i64 l.res, .int .i64 l.ex, .int .i64 l.h, .int .i64 l.flag,
  .int .i64 l.pending, .int .i64 l.ask, .int .i64 l.count, .int .i64 l.sense, .int .i64 l.deques, .int .i64 l.size]
@[reducible] def Lay.val (l : Lay) : Value := .agg l.cells

/-! ### a region that draws its order, whose operations read, and whose callees make blocks of their own alone: one walk of the text's order serves all -/
structure Later (w0 : World) where
  w : World
  k : Kept [] w0 w
theorem wp_region_kept {P : Program} {id : Nat} {Q : Exit → Act → World → Prop} {a : Act} {w : World} {l : List Oper} (hm : P.follows .mixedOrders = true) (hB : Region.lexB .any l.toArray = true)
    (h : wpQuiet P l.toArray (fun w' => ∃ x : Later w, w' = x.w) (fun a' => ∀ w', (∃ x : Later w, w' = x.w) → Q .normal a' w') l a) : (Code.region id l.toArray true).wp P Q a w :=
  wp_region_quiet (C := fun w' => ∃ x : Later w, w' = x.w) hm hB ⟨⟨_, (Kept.refl [] w).drew⟩, rfl⟩ (by simpa using h)
theorem later_of {P : Program} {f : FuncId} {args : Array Value} {w0 : World} {x : Later w0} {v : Value}
    (h : Calls P f args x.w fun e w' => e = .returned v ∧ Kept [] x.w w') : Calls P f args x.w fun e w'' => e = .returned v ∧ ∃ y : Later w0, w'' = y.w :=
  h.mono fun _ w' ⟨he, hm⟩ => ⟨he, ⟨w', x.k.trans hm⟩, rfl⟩
theorem later_same {P : Program} {f : FuncId} {args : Array Value} {w0 : World} {x : Later w0} {v : Value}
    (h : Calls P f args x.w fun e w' => e = .returned v ∧ x.w = w') : Calls P f args x.w fun e w'' => e = .returned v ∧ ∃ y : Later w0, w'' = y.w :=
  h.mono fun _ _ ⟨he, hm⟩ => ⟨he, x, hm.symm⟩
theorem later_cells {w0 : World} {b : Nat} {c : Array Value} {t : TypeId} (h : w0.heap[b]? = some (.cells c t (0, 0))) : ∀ (x : Later w0) (i : Nat), x.w.cell? ⟨b, i, none⟩ = c[i]? :=
  fun x i => cells_of (x.k.get h (by simp)) i
end Go.Proofs.Ytlbhckndejldcaa
