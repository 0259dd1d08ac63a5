/- CountAsk's own function value. -/
import Derived.Test.YtklkopoelhndoaaCPend
import Derived.Test.YtklkopoelhndoaaCount4
import Derived.Test.YtklkopoelhndoaaOps13
import Derived.Test.YtklkopoelhndoaaCut
namespace Go.Proofs.Ytklkopoelhndoaa
open Go.RowKit Go.ChangeShapes Go.WideShapes
set_option linter.unusedVariables false
/-- the same, nil or not -/
def OpsG (w : World) (a : Option Addr) (len cap : Nat) (f : Nat → Op13) : Prop :=
  len ≤ cap ∧ cap ≤ maxLen ∧ (a = none → cap = 0) ∧ ∀ k, k < len → ∃ b off, a = some ⟨b, off, none⟩ ∧ b < w.heap.size ∧
    (0 ≤ (f k).kind ∧ (f k).kind ≤ 255) ∧ w.cell? ⟨b, off + k * 3, none⟩ = some (.int .u8 (f k).kind) ∧ w.cell? ⟨b, off + k * 3 + 1, none⟩ = some (.int .i64 (f k).n) ∧ w.cell? ⟨b, off + k * 3 + 2, none⟩ = some (.bool (f k).again)
theorem OpsG.of {w : World} {a : Option Addr} {len cap : Nat} {f : Nat → Op13} (h : Ops13 w a len cap f) : OpsG w a len cap f := by
  rcases h with ⟨rfl, rfl, rfl⟩ | ⟨x, rfl, rfl, hc⟩ | ⟨b, off, rfl, _, hl, hc, hb', hf⟩
  · exact ⟨Nat.le_refl _, by decide, fun _ => rfl, fun k hk => by omega⟩
  · exact ⟨by omega, hc, fun h => (by cases h), fun k hk => by omega⟩
  · exact ⟨hl, hc, fun h => (by cases h), fun k hk => ⟨b, off, rfl, hb', hf k hk⟩⟩
theorem w64m (p : Int) : wrap64 (p - 1) = wrap64 (p + -1) := by rw [Int.sub_eq_add_neg]
def AskPost (B D Q : Nat) (p a : Int) (w : World) (e : Ending) (w' : World) : Prop :=
  e = .returned (.tuple #[]) ∧ Kept [D, Q] w w' ∧ BankAt w' B D (bk p a) ∧ w'.heap[Q]? = some (.cells #[.int .i64 p] 2 (0, 0))
set_option maxHeartbeats 2000000 in
set_option maxRecDepth 100000 in
theorem c78_0 (B D P Bp Q : Nat) (p a q n : Int) (ag : Bool) (w : World) (hb : BankAt w B D (bk p a)) (hP : w.heap[P]? = some (.cells l211.cells 25 (0, 0))) (hBp : w.heap[Bp]? = some (.cells #[.pointer (some ⟨B, 0, none⟩)] 26 (0, 0)))
    (hQ : w.heap[Q]? = some (.cells #[.int .i64 p] 2 (0, 0))) (hQB : Q ≠ B) (hQD : Q ≠ D) :
    Calls Try.prog 29 #[.agg #[.int .u8 q, .int .i64 n, .bool ag], .int .i64 0, .pointer (some ⟨P, 0, none⟩), .pointer (some ⟨Bp, 0, none⟩), .pointer (some ⟨Q, 0, none⟩)] w (AskPost B D Q (wrap64 (p + n)) a w) := by
  have ka : Kept [] w (w.alloc (.cells #[.int .u8 q, .int .i64 n, .bool ag] 56)) := (Kept.refl _ _).alloc _
  have hcO := cells_of (new_alloc w (.cells #[.int .u8 q, .int .i64 n, .bool ag] 56))
  have hcP := cells_of (ka.get hP (by simp))
  have hcB := cells_of (ka.get hBp (by simp))
  have hcQ := cells_of (ka.get hQ (by simp))
  have HB := hid (hb.keep ka (by simp) (by simp))
  have HQ := hid (ka.get hQ (by simp))
  have HO := hid (new_alloc w (.cells #[.int .u8 q, .int .i64 n, .bool ag] 56))
  have HK := hid ka
  have HQB := hid hQB
  have HQD := hid hQD
  have HOD : Hid (w.heap.size ≠ D) := hid (fun e => by have := hb.ltD; omega)
  clear hb hP hBp hQ hQB hQD ka
  go_enter Try.func29, Try.ntmps29
  go_wp2_with fail
  refine (c79_0 n l211 B D (bk p a) ag _ HB.out).mono ?_
  rw [mbank0]
  rintro e w2 ⟨rfl, hk, hb2⟩
  have HB2 := hid hb2
  have hq2 := hk.get HQ.out (by simpa using HQD.out)
  have ho2 := hk.get HO.out (by simpa using HOD.out)
  have HK2 := hid ((HK.out.of_nil (M := [D])).trans hk)
  have HQ2 := hid hq2
  clear hb2 hk hcO hcQ hcP hcB
  have hcO := cells_of ho2
  have hcQ := cells_of hq2
  have hzQ := free_of hq2
  clear ho2 hq2
  go_wp2_with fail
  go_end0
  refine ⟨rfl, (HK2.out.mono (by simp)).setCell (.inl (by simp)) _, HB2.out.keep (L := [Q]) ((Kept.refl _ _).setCell (.inl (by simp)) _) (by simpa using Ne.symm HQB.out) (by simpa using Ne.symm HQD.out), ?_⟩
  have := set_of HQ2.out 0 (.int .i64 (wrap64 (p + n)))
  simpa using this
set_option maxHeartbeats 2000000 in
set_option maxRecDepth 100000 in
theorem c78_1 (B D P Bp Q : Nat) (p a q n : Int) (ag : Bool) (w : World) (hb : BankAt w B D (bk p a)) (hP : w.heap[P]? = some (.cells l211.cells 25 (0, 0))) (hBp : w.heap[Bp]? = some (.cells #[.pointer (some ⟨B, 0, none⟩)] 26 (0, 0)))
    (hQ : w.heap[Q]? = some (.cells #[.int .i64 p] 2 (0, 0))) (hQB : Q ≠ B) (hQD : Q ≠ D) :
    Calls Try.prog 29 #[.agg #[.int .u8 q, .int .i64 n, .bool ag], .int .i64 1, .pointer (some ⟨P, 0, none⟩), .pointer (some ⟨Bp, 0, none⟩), .pointer (some ⟨Q, 0, none⟩)] w (AskPost B D Q (wrap64 (p + -1)) a w) := by
  have ka : Kept [] w (w.alloc (.cells #[.int .u8 q, .int .i64 n, .bool ag] 56)) := (Kept.refl _ _).alloc _
  have hcO := cells_of (new_alloc w (.cells #[.int .u8 q, .int .i64 n, .bool ag] 56))
  have hcP := cells_of (ka.get hP (by simp))
  have hcB := cells_of (ka.get hBp (by simp))
  have hcQ := cells_of (ka.get hQ (by simp))
  have HB := hid (hb.keep ka (by simp) (by simp))
  have HQ := hid (ka.get hQ (by simp))
  have HO := hid (new_alloc w (.cells #[.int .u8 q, .int .i64 n, .bool ag] 56))
  have HK := hid ka
  have HQB := hid hQB
  have HQD := hid hQD
  have HOD : Hid (w.heap.size ≠ D) := hid (fun e => by have := hb.ltD; omega)
  clear hb hP hBp hQ hQB hQD ka
  go_enter Try.func29, Try.ntmps29
  go_wp2_with fail
  refine (c79_1 n l211 B D (bk p a) ag _ HB.out).mono ?_
  rw [mres0, mbank0]
  rintro e w2 ⟨rfl, hk, hb2⟩
  have HB2 := hid hb2
  have hq2 := hk.get HQ.out (by simpa using HQD.out)
  have ho2 := hk.get HO.out (by simpa using HOD.out)
  have HK2 := hid ((HK.out.of_nil (M := [D])).trans hk)
  have HQ2 := hid hq2
  clear hb2 hk hcO hcQ hcP hcB
  have hcO := cells_of ho2
  have hcQ := cells_of hq2
  have hzQ := free_of hq2
  clear ho2 hq2
  go_wp2_with fail
  go_end0
  refine ⟨rfl, (HK2.out.mono (by simp)).setCell (.inl (by simp)) _, HB2.out.keep (L := [Q]) ((Kept.refl _ _).setCell (.inl (by simp)) _) (by simpa using Ne.symm HQB.out) (by simpa using Ne.symm HQD.out), ?_⟩
  have := set_of HQ2.out 0 (.int .i64 (wrap64 (p - 1)))
  rw [w64m] at this ⊢
  simpa using this
set_option maxHeartbeats 2000000 in
set_option maxRecDepth 100000 in
theorem c78_2 (B D P Bp Q : Nat) (p a q n : Int) (ag : Bool) (w : World) (hb : BankAt w B D (bk p a)) (hP : w.heap[P]? = some (.cells l211.cells 25 (0, 0))) (hBp : w.heap[Bp]? = some (.cells #[.pointer (some ⟨B, 0, none⟩)] 26 (0, 0)))
    (hQ : w.heap[Q]? = some (.cells #[.int .i64 p] 2 (0, 0))) (hQB : Q ≠ B) (hQD : Q ≠ D) :
    Calls Try.prog 29 #[.agg #[.int .u8 q, .int .i64 n, .bool ag], .int .i64 2, .pointer (some ⟨P, 0, none⟩), .pointer (some ⟨Bp, 0, none⟩), .pointer (some ⟨Q, 0, none⟩)] w (AskPost B D Q p a w) := by
  have ka : Kept [] w (w.alloc (.cells #[.int .u8 q, .int .i64 n, .bool ag] 56)) := (Kept.refl _ _).alloc _
  have hcO := cells_of (new_alloc w (.cells #[.int .u8 q, .int .i64 n, .bool ag] 56))
  have hcP := cells_of (ka.get hP (by simp))
  have hcB := cells_of (ka.get hBp (by simp))
  have hcQ := cells_of (ka.get hQ (by simp))
  have HB := hid (hb.keep ka (by simp) (by simp))
  have HQ := hid (ka.get hQ (by simp))
  have HO := hid (new_alloc w (.cells #[.int .u8 q, .int .i64 n, .bool ag] 56))
  have HK := hid ka
  have HQB := hid hQB
  have HQD := hid hQD
  have HOD : Hid (w.heap.size ≠ D) := hid (fun e => by have := hb.ltD; omega)
  clear hb hP hBp hQ hQB hQD ka
  go_enter Try.func29, Try.ntmps29
  go_wp2_with fail
  refine (c79_2 n l211 B D (bk p a) ag _ HB.out).mono ?_
  rw [mres2, mbank2]
  rintro e w2 ⟨rfl, hk, hb2⟩
  have HB2 := hid hb2
  have hq2 := hk.get HQ.out (by simpa using HQD.out)
  have ho2 := hk.get HO.out (by simpa using HOD.out)
  have HK2 := hid ((HK.out.of_nil (M := [D])).trans hk)
  have HQ2 := hid hq2
  clear hb2 hk hcO hcQ hcP hcB
  clear ho2 hq2
  go_wp2_with fail
  go_end0
  exact ⟨rfl, HK2.out.mono (by simp), HB2.out, HQ2.out⟩
set_option maxHeartbeats 2000000 in
set_option maxRecDepth 100000 in
theorem c78_3 (B D P Bp Q : Nat) (p a q n : Int) (ag : Bool) (w : World) (hb : BankAt w B D (bk p a)) (hP : w.heap[P]? = some (.cells l211.cells 25 (0, 0))) (hBp : w.heap[Bp]? = some (.cells #[.pointer (some ⟨B, 0, none⟩)] 26 (0, 0)))
    (hQ : w.heap[Q]? = some (.cells #[.int .i64 p] 2 (0, 0))) (hQB : Q ≠ B) (hQD : Q ≠ D) :
    Calls Try.prog 29 #[.agg #[.int .u8 q, .int .i64 n, .bool ag], .int .i64 3, .pointer (some ⟨P, 0, none⟩), .pointer (some ⟨Bp, 0, none⟩), .pointer (some ⟨Q, 0, none⟩)] w (AskPost B D Q p 1 w) := by
  have ka : Kept [] w (w.alloc (.cells #[.int .u8 q, .int .i64 n, .bool ag] 56)) := (Kept.refl _ _).alloc _
  have hcO := cells_of (new_alloc w (.cells #[.int .u8 q, .int .i64 n, .bool ag] 56))
  have hcP := cells_of (ka.get hP (by simp))
  have hcB := cells_of (ka.get hBp (by simp))
  have hcQ := cells_of (ka.get hQ (by simp))
  have HB := hid (hb.keep ka (by simp) (by simp))
  have HQ := hid (ka.get hQ (by simp))
  have HO := hid (new_alloc w (.cells #[.int .u8 q, .int .i64 n, .bool ag] 56))
  have HK := hid ka
  have HQB := hid hQB
  have HQD := hid hQD
  have HOD : Hid (w.heap.size ≠ D) := hid (fun e => by have := hb.ltD; omega)
  clear hb hP hBp hQ hQB hQD ka
  go_enter Try.func29, Try.ntmps29
  go_wp2_with fail
  refine (c79_3 n l211 B D (bk p a) ag _ HB.out).mono ?_
  rw [mbank3]
  rintro e w2 ⟨rfl, hk, hb2⟩
  have HB2 := hid hb2
  have hq2 := hk.get HQ.out (by simpa using HQD.out)
  have ho2 := hk.get HO.out (by simpa using HOD.out)
  have HK2 := hid ((HK.out.of_nil (M := [D])).trans hk)
  have HQ2 := hid hq2
  clear hb2 hk hcO hcQ hcP hcB
  clear ho2 hq2
  go_wp2_with fail
  go_end0
  exact ⟨rfl, HK2.out.mono (by simp), HB2.out, HQ2.out⟩
set_option maxHeartbeats 2000000 in
set_option maxRecDepth 100000 in
theorem c78_4 (B D P Bp Q : Nat) (p a q n : Int) (ag : Bool) (w : World) (hb : BankAt w B D (bk p a)) (hP : w.heap[P]? = some (.cells l211.cells 25 (0, 0))) (hBp : w.heap[Bp]? = some (.cells #[.pointer (some ⟨B, 0, none⟩)] 26 (0, 0)))
    (hQ : w.heap[Q]? = some (.cells #[.int .i64 p] 2 (0, 0))) (hQB : Q ≠ B) (hQD : Q ≠ D) :
    Calls Try.prog 29 #[.agg #[.int .u8 q, .int .i64 n, .bool ag], .int .i64 4, .pointer (some ⟨P, 0, none⟩), .pointer (some ⟨Bp, 0, none⟩), .pointer (some ⟨Q, 0, none⟩)] w (AskPost B D Q p a w) := by
  have ka : Kept [] w (w.alloc (.cells #[.int .u8 q, .int .i64 n, .bool ag] 56)) := (Kept.refl _ _).alloc _
  have hcO := cells_of (new_alloc w (.cells #[.int .u8 q, .int .i64 n, .bool ag] 56))
  have hcP := cells_of (ka.get hP (by simp))
  have hcB := cells_of (ka.get hBp (by simp))
  have hcQ := cells_of (ka.get hQ (by simp))
  have HB := hid (hb.keep ka (by simp) (by simp))
  have HQ := hid (ka.get hQ (by simp))
  have HO := hid (new_alloc w (.cells #[.int .u8 q, .int .i64 n, .bool ag] 56))
  have HK := hid ka
  have HQB := hid hQB
  have HQD := hid hQD
  have HOD : Hid (w.heap.size ≠ D) := hid (fun e => by have := hb.ltD; omega)
  clear hb hP hBp hQ hQB hQD ka
  go_enter Try.func29, Try.ntmps29
  go_wp2_with fail
  refine (c79_4 n l211 B D (bk p a) ag _ HB.out).mono ?_
  rw [mres4, mbank4]
  rintro e w2 ⟨rfl, hk, hb2⟩
  have HB2 := hid hb2
  have hq2 := hk.get HQ.out (by simpa using HQD.out)
  have ho2 := hk.get HO.out (by simpa using HOD.out)
  have HK2 := hid ((HK.out.of_nil (M := [D])).trans hk)
  have HQ2 := hid hq2
  clear hb2 hk hcO hcQ hcP hcB
  clear ho2 hq2
  go_wp2_with fail
  go_end0
  exact ⟨rfl, HK2.out.mono (by simp), HB2.out, HQ2.out⟩
end Go.Proofs.Ytklkopoelhndoaa
