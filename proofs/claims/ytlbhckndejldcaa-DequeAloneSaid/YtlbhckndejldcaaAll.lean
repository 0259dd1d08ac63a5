/- All: a new row that holds what all cells have. -/
import Derived.Test.YtlbhckndejldcaaBank
namespace Go.Proofs.Ytlbhckndejldcaa
open Go.RowKit
theorem info2 : (Try.prog.info? 2).map (fun i => (i.zero, i.size, i.bytes)) = some (some (.int .i64 0), 1, 8) := by kernel_rfl
theorem madeCells_zero1 (n : Nat) : madeCells (Value.int .i64 0).cells n = i64s (List.replicate n 0) := by
  apply Array.ext_getElem?
  intro k
  rw [i64s_get]
  by_cases h : k < n
  · simp [madeCells, h, Value.cells, Nat.mod_one]
  · simp [madeCells, h, Value.cells]
/-- a row of numbers that the call made: its block -/
def RowPost (m : List Int) (w : World) (e : Ending) (w' : World) : Prop :=
  ∃ O, e = .returned (.slice (some ⟨O, 0, none⟩) m.length m.length) ∧ w.heap.size ≤ O ∧ Kept [] w w' ∧ w'.heap[O]? = some (.cells (i64s m) 2 (0, 0))
/-- the first k of m, then zeros -/
def part (m : List Int) (k : Nat) : List Int := m.take k ++ List.replicate (m.length - k) 0
theorem part_length (m : List Int) (k : Nat) (h : k ≤ m.length) : (part m k).length = m.length := by simp [part]; omega
theorem part_zero (m : List Int) : part m 0 = List.replicate m.length 0 := by simp [part]
theorem part_all (m : List Int) : part m m.length = m := by simp [part]
theorem part_succ (m : List Int) (k : Nat) (h : k < m.length) : (part m k).set k (ld m k) = part m (k + 1) := by
  have e : ld m k = m[k] := by rw [ld, if_pos ⟨by omega, by omega⟩]; simp [h]
  rw [e]
  unfold part
  obtain ⟨d, hd⟩ : ∃ d, m.length - k = d + 1 := ⟨m.length - k - 1, by omega⟩
  have hlen : (m.take k).length = k := by simp; omega
  rw [List.set_append, hlen, if_neg (by omega), hd, Nat.sub_self, List.replicate_succ, List.set_cons_zero, List.take_succ_eq_append_getElem h,
    List.append_assoc, show m.length - (k + 1) = d from by omega]
  rfl
set_option maxHeartbeats 1000000 in
set_option maxRecDepth 100000 in
theorem c48 (B D : Nat) (m : List Int) (w : World) (h : BankAt w B D m) : Calls Try.prog 38 #[.pointer (some ⟨B,0,none⟩)] w (RowPost m w) := by
  obtain ⟨i0, hi, hz0, hz1, hz2⟩ := info_parts info2
  have hl := h.le
  have hmk := run_make (P := Try.prog) w 25 2 i0 (.int .i64 0) Try.underlying25 hi hz0 .i64 .i64 m.length m.length (by omega) (by omega) (by rw [hz2]; omega) (by omega)
  rw [hz1, Int.toNat_natCast, Nat.mul_one, madeCells_zero1] at hmk
  have H40 := hid (c40 B D m w h)
  have H := hid h
  have HL := hid hl
  have hl' : (m.length : Int) ≤ 524288 := by omega
  clear hi hz0 hz1 hz2 h hl
  go_enter Try.func38, Try.ntmps38
  go_wp2_with (go_at_call 74; refine H40.out.mono ?_; rintro e w' ⟨rfl, rfl⟩)
  clear hmk H40
  go_loopw [4, 10] (fun _ i wr => ∃ k : Nat, k ≤ m.length ∧ i = .int .i64 k ∧ Kept [] w wr ∧ BankAt wr B D m ∧ wr.heap[w.heap.size]? = some (.cells (i64s (part m k)) 2 (0, 0)) ∧ w.heap.size < wr.heap.size) (fun _ i _ => m.length - (intOf i).toNat)
  case atStart => exact ⟨0, by omega, rfl, (Kept.refl _ _).alloc _, H.out.keep ((Kept.refl [] w).alloc _) (by simp) (by simp), by rw [part_zero]; exact new_alloc w _, by simp⟩
  case round =>
    obtain ⟨k, hk, rfl, HK, HB, HO, hsz⟩ := hrel
    by_cases hlt : k < m.length
    · have hcO : ∀ i, wr.cell? ⟨w.heap.size, i, none⟩ = (i64s (part m k))[i]? := cells_of HO
      have hcO1 : wr.cell? ⟨w.heap.size, k, none⟩ = some (.int .i64 ((part m k).getD k 0)) := by
        rw [hcO, i64s_get]
        have : k < (part m k).length := by rw [part_length _ _ hk]; exact hlt
        simp [this]
      have hfO : wr.frozen? ⟨w.heap.size, k, none⟩ = false := free_of HO k
      have H42 := hid (c42 B D m k wr HB)
      have HB' := hid HB
      have HO' := hid HO
      have HK' := hid HK
      have hbD : D ≠ w.heap.size := fun e => by have := H.out.ltD; omega
      have hbB : B ≠ w.heap.size := fun e => by have := H.out.ltB; omega
      clear HB HO HK hcO
      go_wp2_with (go_at_call 16; refine H42.out.mono ?_; rintro e w' ⟨rfl, rfl⟩)
      go_roundw
      case rel =>
        have K2 : Kept [w.heap.size] wr (wr.setCell ⟨w.heap.size, k, none⟩ (.int .i64 (ld m k))) := (Kept.refl _ _).setCell (.inl (by simp)) _
        refine ⟨k + 1, by omega, by go_num, HK'.out.drop K2 (by simp), HB'.out.keep K2 (by simpa using hbB) (by simpa using hbD), ?_, by simpa using hsz⟩
        rw [← part_succ m k hlt, ← i64s_set]; exact set_of HO'.out _ _
      case measure => simp [intOf]; omega
    · obtain rfl : k = m.length := by omega
      have HO' := hid HO
      have HK' := hid HK
      clear HB HO HK
      go_wp2
      go_ret
      exact ⟨w.heap.size, rfl, Nat.le_refl _, HK'.out, by rw [← part_all m]; simpa [part_all] using HO'.out⟩
end Go.Proofs.Ytlbhckndejldcaa
