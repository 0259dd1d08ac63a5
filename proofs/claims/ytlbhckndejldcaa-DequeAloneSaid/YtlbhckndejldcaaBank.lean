/- A bank as a list of numbers: what Load, Store, Add, CAS, Len do with it, whatever the cell's number. -/
import Derived.Test.YtlbhckndejldcaaCells
namespace Go.Proofs.Ytlbhckndejldcaa
open Go.RowKit

theorem BankAt.hb {w : World} {B D : Nat} {m : List Int} (h : BankAt w B D m) : w.cell? ⟨B,0,none⟩ = some (.slice (some ⟨D,0,none⟩) m.length m.length) := by
  rw [cells_of h.head 0]; rfl
theorem BankAt.hc {w : World} {B D : Nat} {m : List Int} (h : BankAt w B D m) {i : Int} (h0 : 0 ≤ i) (h1 : i < m.length) : w.cell? ⟨D, i.toNat, none⟩ = some (.int .i64 (ld m i)) := by
  rw [cells_of h.data, i64s_get, ld, if_pos ⟨h0, h1⟩]
  have : i.toNat < m.length := by omega
  simp [this]
theorem BankAt.hz {w : World} {B D : Nat} {m : List Int} (h : BankAt w B D m) (i : Nat) : w.frozen? ⟨D, i, none⟩ = false := free_of h.data i
theorem BankAt.no {w : World} {B D : Nat} {m : List Int} (h : BankAt w B D m) {i : Int} (hi : ¬ (0 ≤ i ∧ i < m.length)) : NoCell w (some ⟨B, 0, none⟩) i :=
  .inr ⟨B, rfl, .inr ⟨D, m.length, h.hb, by omega⟩⟩
theorem BankAt.set {w : World} {B D : Nat} {m : List Int} (h : BankAt w B D m) {i : Int} (h0 : 0 ≤ i) (h1 : i < m.length) (v : Int) : BankAt (w.setCell ⟨D, i.toNat, none⟩ (.int .i64 v)) B D (st m i v) := by
  have e : st m i v = m.set i.toNat v := by rw [st, if_pos ⟨h0, h1⟩]
  refine ⟨?_, ?_, h.ne, ?_⟩
  · rw [st_length]; exact other_set h.head _ _ h.ne
  · rw [e, ← i64s_set]; exact set_of h.data _ _
  · rw [st_length]; exact h.le
theorem st_no {m : List Int} {i : Int} (hi : ¬ (0 ≤ i ∧ i < m.length)) (v : Int) : st m i v = m := by rw [st, if_neg hi]
theorem ld_no {m : List Int} {i : Int} (hi : ¬ (0 ≤ i ∧ i < m.length)) : ld m i = 0 := by rw [ld, if_neg hi]

theorem c42 (B D : Nat) (m : List Int) (i : Int) (w : World) (h : BankAt w B D m) :
    Calls Try.prog 16 #[.pointer (some ⟨B,0,none⟩), .int .i64 i] w fun e w' => e = .returned (.int .i64 (ld m i)) ∧ w = w' := by
  by_cases hi : 0 ≤ i ∧ i < m.length
  · exact load_in B D m.length i _ w h.hb hi.1 hi.2 (h.hc hi.1 hi.2)
  · rw [ld_no hi]; exact load_no _ i w (h.no hi)

theorem c43 (B D : Nat) (m : List Int) (i v : Int) (w : World) (h : BankAt w B D m) :
    Calls Try.prog 46 #[.pointer (some ⟨B,0,none⟩), .int .i64 i, .int .i64 v] w fun e w' => e = .returned (.tuple #[]) ∧ Kept [D] w w' ∧ BankAt w' B D (st m i v) := by
  by_cases hi : 0 ≤ i ∧ i < m.length
  · refine (store_in B D m.length i v _ w h.hb hi.1 hi.2 (h.hc hi.1 hi.2) (h.hz _)).mono ?_
    rintro e w' ⟨rfl, rfl⟩
    exact ⟨rfl, (Kept.refl _ _).setCell (.inl (by simp)) _, h.set hi.1 hi.2 v⟩
  · refine (store_no _ i v w (h.no hi)).mono ?_
    rintro e w' ⟨rfl, rfl⟩
    exact ⟨rfl, Kept.refl _ _, by rw [st_no hi]; exact h⟩

/-- what an addition tells: 0 where there is no cell -/
def adds (m : List Int) (i v : Int) : Int := if 0 ≤ i ∧ i < m.length then wrap64 (ld m i + v) else 0
theorem c45 (B D : Nat) (m : List Int) (i v : Int) (w : World) (h : BankAt w B D m) :
    Calls Try.prog 89 #[.pointer (some ⟨B,0,none⟩), .int .i64 i, .int .i64 v] w fun e w' => e = .returned (.int .i64 (adds m i v)) ∧ Kept [D] w w' ∧ BankAt w' B D (st m i (wrap64 (ld m i + v))) := by
  by_cases hi : 0 ≤ i ∧ i < m.length
  · refine (add_in B D m.length i v _ w h.hb hi.1 hi.2 (h.hc hi.1 hi.2) (h.hz _)).mono ?_
    rintro e w' ⟨rfl, rfl⟩
    exact ⟨by rw [adds, if_pos hi], (Kept.refl _ _).setCell (.inl (by simp)) _, h.set hi.1 hi.2 _⟩
  · refine (add_no _ i v w (h.no hi)).mono ?_
    rintro e w' ⟨rfl, rfl⟩
    exact ⟨by rw [adds, if_neg hi], Kept.refl _ _, by rw [st_no hi]; exact h⟩

/-- does a CAS hit? -/
def hits (m : List Int) (i o : Int) : Bool := decide (0 ≤ i ∧ i < m.length ∧ ld m i = o)
theorem c47 (B D : Nat) (m : List Int) (i o v : Int) (w : World) (h : BankAt w B D m) :
    Calls Try.prog 95 #[.pointer (some ⟨B,0,none⟩), .int .i64 i, .int .i64 o, .int .i64 v] w fun e w' => e = .returned (.bool (hits m i o)) ∧ Kept [D] w w' ∧ BankAt w' B D (if hits m i o = true then st m i v else m) := by
  by_cases hi : 0 ≤ i ∧ i < m.length
  · by_cases ho : ld m i = o
    · have hh : hits m i o = true := decide_eq_true ⟨hi.1, hi.2, ho⟩
      subst ho
      refine (cas_hit B D m.length i v _ w h.hb hi.1 hi.2 (h.hc hi.1 hi.2) (h.hz _)).mono ?_
      rintro e w' ⟨rfl, rfl⟩
      exact ⟨by rw [hh], (Kept.refl _ _).setCell (.inl (by simp)) _, by rw [if_pos hh]; exact h.set hi.1 hi.2 _⟩
    · have hh : hits m i o = false := decide_eq_false (fun x => ho x.2.2)
      refine (cas_miss B D m.length i o v _ w h.hb hi.1 hi.2 (h.hc hi.1 hi.2) (h.hz _) ho).mono ?_
      rintro e w' ⟨rfl, rfl⟩
      exact ⟨by rw [hh], Kept.refl _ _, by rw [if_neg (by simp [hh])]; exact h⟩
  · have hh : hits m i o = false := decide_eq_false (fun x => hi ⟨x.1, x.2.1⟩)
    refine (cas_no _ i o v w (h.no hi)).mono ?_
    rintro e w' ⟨rfl, rfl⟩
    exact ⟨by rw [hh], Kept.refl _ _, by rw [if_neg (by simp [hh])]; exact h⟩

set_option maxHeartbeats 400000 in
theorem len_in (B D n : Nat) (w : World) (hb : w.cell? ⟨B,0,none⟩ = some (.slice (some ⟨D,0,none⟩) n n)) :
    Calls Try.prog 74 #[.pointer (some ⟨B,0,none⟩)] w fun e w' => e = .returned (.int .i64 n) ∧ w = w' := by
  go_enter Try.func74, Try.ntmps74
  go_wp2
  go_ret
  exact ⟨rfl, rfl⟩
theorem c40 (B D : Nat) (m : List Int) (w : World) (h : BankAt w B D m) :
    Calls Try.prog 74 #[.pointer (some ⟨B,0,none⟩)] w fun e w' => e = .returned (.int .i64 m.length) ∧ w = w' := len_in B D _ w h.hb

/-! ### New -/
theorem info245 : (Try.prog.info? 159).map (fun i => (i.zero, i.size, i.bytes)) = some (some (.agg #[.int .i64 0]), 1, 8) := by kernel_rfl
def NewPost (n : Nat) (w : World) (e : Ending) (w' : World) : Prop :=
  ∃ B D, e = .returned (.tuple #[.pointer (some ⟨B, 0, none⟩), .int .i64 0]) ∧ w.heap.size ≤ B ∧ w.heap.size ≤ D ∧ Kept [] w w' ∧ BankAt w' B D (List.replicate n 0)
theorem madeCells_zero (n : Nat) : madeCells (Value.agg #[.int .i64 0]).cells n = i64s (List.replicate n 0) := by
  apply Array.ext_getElem?
  intro k
  rw [i64s_get]
  by_cases h : k < n
  · simp [madeCells, h, Value.cells, Nat.mod_one]
  · simp [madeCells, h, Value.cells]
set_option maxHeartbeats 400000 in
set_option maxRecDepth 100000 in
theorem new_ok (n : Nat) (hn : n ≤ 524288) (w : World) : Calls Try.prog 45 #[.int .i64 n] w (NewPost n w) := by
  obtain ⟨i0, hi, hz0, hz1, hz2⟩ := info_parts info245
  have hmk := run_make (P := Try.prog) w 146 159 i0 (.agg #[.int .i64 0]) Try.underlying146 hi hz0 .i64 .i64 n n (by omega) (by omega) (by rw [hz2]; omega) (by omega)
  rw [hz1, Int.toNat_natCast, Nat.mul_one, madeCells_zero] at hmk
  have h1 : ¬ (524288 : Int) < (n : Int) := by omega
  have HN := hid hn
  clear hi hz0 hz1 hz2 hn
  go_enter Try.func45, Try.ntmps45
  go_wp2
  go_ret2
  have hn := HN.out
  refine ⟨w.heap.size + 1, w.heap.size, rfl, by omega, by omega, ((Kept.refl _ _).alloc _).alloc _, ⟨?_, ?_, by omega, ?_⟩⟩
  · have := new_alloc (w.alloc (.cells (i64s (List.replicate n 0)) 159)) (.cells #[.slice (some ⟨w.heap.size, 0, none⟩) n n] 148)
    simpa using this
  · exact old_alloc (new_alloc w _) _
  · simpa using hn
theorem new_no (n : Int) (hn : n < 0 ∨ 524288 < n) (w : World) : Calls Try.prog 45 #[.int .i64 n] w fun e w' => e = .returned (.tuple #[.pointer none, .int .i64 2]) ∧ w = w' := by
  by_cases h : n < 0
  · go_enter Try.func45, Try.ntmps45
    go_wp2
    go_ret2
    exact ⟨rfl, rfl⟩
  · have h1 : (524288 : Int) < n := by omega
    clear hn
    go_enter Try.func45, Try.ntmps45
    go_wp2
    go_ret2
    exact ⟨rfl, rfl⟩
end Go.Proofs.Ytlbhckndejldcaa
