/- The deque's machines made. -/
import Derived.Test.YtlbhckndejldcaaDN0
import Derived.Test.YtlbhckndejldcaaRowOps
import Derived.Deep.Cut
namespace Go.Proofs.Ytlbhckndejldcaa
open Go.RowKit
attribute [local go_sem ↓] Go.wp_at_zero Go.wp_at_succ
set_option linter.unusedVariables false
theorem info102 : (Try.prog.info? 59).map (·.size) = some 21 := by kernel_rfl
theorem info97 : (Try.prog.info? 53).map (·.size) = some 22 := by kernel_rfl
theorem info171 : (Try.prog.info? 79).map (·.size) = some 22 := by kernel_rfl
theorem info24 : (Try.prog.info? 31).map (·.size) = some 14 := by kernel_rfl
theorem two_made (w : World) (a b : Array Value) (t u : TypeId) :
    ((w.alloc (.cells a t)).alloc (.cells b u)).heap[w.heap.size]? = some (.cells a t (0, 0)) ∧ ((w.alloc (.cells a t)).alloc (.cells b u)).heap[w.heap.size + 1]? = some (.cells b u (0, 0)) ∧ Kept [] w ((w.alloc (.cells a t)).alloc (.cells b u)) :=
  ⟨old_alloc (new_alloc _ _) _, by have := new_alloc (w.alloc (.cells a t)) (.cells b u); rwa [show (w.alloc (.cells a t)).heap.size = w.heap.size + 1 by simp] at this, ((Kept.refl _ _).alloc _).alloc _⟩
set_option maxHeartbeats 2000000 in
set_option maxRecDepth 100000 in
theorem d69 (l : Lay) (k : Int) (w : World) :
    Calls Try.prog 26 #[l.val, .int .i64 k] w fun e w' => e = .returned (.agg (ptCells l (pt0 k))) ∧ Kept [] w w' := by
  go_enter Try.func26, Try.ntmps26
  go_upto_region 1 with fail
  have H := hid (two_made w l.cells #[.int .i64 0, .int .i64 0, .int .i64 0, .int .i64 0, .int .i64 0, .int .i64 0, .int .i64 0, .int .i64 0, .int .i64 0, .int .i64 0, .int .i64 0, .int .i64 0, .int .i64 0, .int .i64 0, .int .i64 0, .int .i64 0, .int .i64 0, .int .i64 0, .int .i64 0, .bool false, .bool false] 31 59)
  generalize (w.alloc (.cells l.cells 31)).alloc (.cells #[.int .i64 0, .int .i64 0, .int .i64 0, .int .i64 0, .int .i64 0, .int .i64 0, .int .i64 0, .int .i64 0, .int .i64 0, .int .i64 0, .int .i64 0, .int .i64 0, .int .i64 0, .int .i64 0, .int .i64 0, .int .i64 0, .int .i64 0, .int .i64 0, .int .i64 0, .bool false, .bool false] 59) = w2 at H ⊢
  have H3 : Hid (Kept [] w (w2.setCells (w.heap.size + 1) 0 (ptCells l (pt0 k)).toList) ∧ (w2.setCells (w.heap.size + 1) 0 (ptCells l (pt0 k)).toList).heap[w.heap.size + 1]? = some (.cells (ptCells l (pt0 k)) 59 (0, 0))) :=
    hid ⟨H.out.2.2.drop (setCells_kept _ _ _ _) (fun x hx => .inr (by simp at hx; omega)), store_row H.out.2.1 rfl⟩
  have HC : Hid ((ptCells l (pt0 k)).all (·.oneCell') = true) := hid (all_oneCell_toArray (by simp [Value.oneCell']))
  have HT : Hid (w2.there (w.heap.size + 1) 0 (ptCells l (pt0 k)).size) := hid (there_of H.out.2.1 rfl)
  go_upto_region 99 with (first | (refine wpList_load_row rfl 31 (.tmp 2) rfl w.heap.size rfl 31 l.cells (0, 0) _ H.out.1 Try.underlying31 rfl info24 ?_) | (refine wpList_store_mid rfl 59 (.tmp 4) (.tmp 8) rfl (w.heap.size + 1) 0 (ptCells l (pt0 k)) rfl rfl HT.out info102 HC.out ?_; clear HT HC H; generalize w2.setCells (w.heap.size + 1) 0 (ptCells l (pt0 k)).toList = w3 at H3 ⊢))
  refine bodyPost_ret (v := .agg (ptCells l (pt0 k))) ?_ rfl ⟨rfl, H3.out.1⟩
  exact results_cell_row Try.results26 _ _ (w.heap.size + 1) 59 (ptCells l (pt0 k)) (0, 0) _ rfl H3.out.2 Try.underlying59 rfl info102
set_option maxHeartbeats 2000000 in
set_option maxRecDepth 100000 in
theorem d66 (l : Lay) (k : Int) (w : World) :
    Calls Try.prog 23 #[l.val, .int .i64 k] w fun e w' => e = .returned (.agg (stealCells l (pt0 k) false)) ∧ Kept [] w w' := by
  go_enter Try.func23, Try.ntmps23
  go_upto_region 1 with fail
  have H := hid (two_made w l.cells #[.int .i64 0, .int .i64 0, .int .i64 0, .int .i64 0, .int .i64 0, .int .i64 0, .int .i64 0, .int .i64 0, .int .i64 0, .int .i64 0, .int .i64 0, .int .i64 0, .int .i64 0, .int .i64 0, .int .i64 0, .int .i64 0, .int .i64 0, .int .i64 0, .int .i64 0, .bool false, .bool false, .bool false] 31 53)
  generalize (w.alloc (.cells l.cells 31)).alloc (.cells #[.int .i64 0, .int .i64 0, .int .i64 0, .int .i64 0, .int .i64 0, .int .i64 0, .int .i64 0, .int .i64 0, .int .i64 0, .int .i64 0, .int .i64 0, .int .i64 0, .int .i64 0, .int .i64 0, .int .i64 0, .int .i64 0, .int .i64 0, .int .i64 0, .int .i64 0, .bool false, .bool false, .bool false] 53) = w2 at H ⊢
  have H3 : Hid (Kept [] w (w2.setCells (w.heap.size + 1) 0 (stealCells l (pt0 k) false).toList) ∧ (w2.setCells (w.heap.size + 1) 0 (stealCells l (pt0 k) false).toList).heap[w.heap.size + 1]? = some (.cells (stealCells l (pt0 k) false) 53 (0, 0))) :=
    hid ⟨H.out.2.2.drop (setCells_kept _ _ _ _) (fun x hx => .inr (by simp at hx; omega)), store_row H.out.2.1 rfl⟩
  have HC : Hid ((stealCells l (pt0 k) false).all (·.oneCell') = true) := hid (all_oneCell_toArray (by simp [Value.oneCell']))
  have HT : Hid (w2.there (w.heap.size + 1) 0 (stealCells l (pt0 k) false).size) := hid (there_of H.out.2.1 rfl)
  go_upto_region 99 with (first | (refine wpList_load_row rfl 31 (.tmp 2) rfl w.heap.size rfl 31 l.cells (0, 0) _ H.out.1 Try.underlying31 rfl info24 ?_) | (refine wpList_store_mid rfl 53 (.tmp 4) (.tmp 8) rfl (w.heap.size + 1) 0 (stealCells l (pt0 k) false) rfl rfl HT.out info97 HC.out ?_; clear HT HC H; generalize w2.setCells (w.heap.size + 1) 0 (stealCells l (pt0 k) false).toList = w3 at H3 ⊢))
  refine bodyPost_ret (v := .agg (stealCells l (pt0 k) false)) ?_ rfl ⟨rfl, H3.out.1⟩
  exact results_cell_row Try.results23 _ _ (w.heap.size + 1) 53 (stealCells l (pt0 k) false) (0, 0) _ rfl H3.out.2 Try.underlying53 rfl info97
set_option maxHeartbeats 2000000 in
set_option maxRecDepth 100000 in
theorem d105 (l : Lay) (k : Int) (v : Int) (w : World) :
    Calls Try.prog 31 #[l.val, .int .i64 k, .int .i64 v] w fun e w' => e = .returned (.agg (pushCells l (pt0 k) v)) ∧ Kept [] w w' := by
  go_enter Try.func31, Try.ntmps31
  go_upto_region 1 with fail
  have H := hid (two_made w l.cells #[.int .i64 0, .int .i64 0, .int .i64 0, .int .i64 0, .int .i64 0, .int .i64 0, .int .i64 0, .int .i64 0, .int .i64 0, .int .i64 0, .int .i64 0, .int .i64 0, .int .i64 0, .int .i64 0, .int .i64 0, .int .i64 0, .int .i64 0, .int .i64 0, .int .i64 0, .bool false, .bool false, .int .i64 0] 31 79)
  generalize (w.alloc (.cells l.cells 31)).alloc (.cells #[.int .i64 0, .int .i64 0, .int .i64 0, .int .i64 0, .int .i64 0, .int .i64 0, .int .i64 0, .int .i64 0, .int .i64 0, .int .i64 0, .int .i64 0, .int .i64 0, .int .i64 0, .int .i64 0, .int .i64 0, .int .i64 0, .int .i64 0, .int .i64 0, .int .i64 0, .bool false, .bool false, .int .i64 0] 79) = w2 at H ⊢
  have H3 : Hid (Kept [] w (w2.setCells (w.heap.size + 1) 0 (pushCells l (pt0 k) v).toList) ∧ (w2.setCells (w.heap.size + 1) 0 (pushCells l (pt0 k) v).toList).heap[w.heap.size + 1]? = some (.cells (pushCells l (pt0 k) v) 79 (0, 0))) :=
    hid ⟨H.out.2.2.drop (setCells_kept _ _ _ _) (fun x hx => .inr (by simp at hx; omega)), store_row H.out.2.1 rfl⟩
  have HC : Hid ((pushCells l (pt0 k) v).all (·.oneCell') = true) := hid (all_oneCell_toArray (by simp [Value.oneCell']))
  have HT : Hid (w2.there (w.heap.size + 1) 0 (pushCells l (pt0 k) v).size) := hid (there_of H.out.2.1 rfl)
  go_upto_region 99 with (first | (refine wpList_load_row rfl 31 (.tmp 3) rfl w.heap.size rfl 31 l.cells (0, 0) _ H.out.1 Try.underlying31 rfl info24 ?_) | (refine wpList_store_mid rfl 79 (.tmp 6) (.tmp 11) rfl (w.heap.size + 1) 0 (pushCells l (pt0 k) v) rfl rfl HT.out info171 HC.out ?_; clear HT HC H; generalize w2.setCells (w.heap.size + 1) 0 (pushCells l (pt0 k) v).toList = w3 at H3 ⊢))
  refine bodyPost_ret (v := .agg (pushCells l (pt0 k) v)) ?_ rfl ⟨rfl, H3.out.1⟩
  exact results_cell_row Try.results31 _ _ (w.heap.size + 1) 79 (pushCells l (pt0 k) v) (0, 0) _ rfl H3.out.2 Try.underlying79 rfl info171
end Go.Proofs.Ytlbhckndejldcaa
