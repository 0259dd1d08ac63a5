/- Machines made; what they tell. -/
import Derived.Test.YtlbhckndejldcaaDStep
namespace Go.Proofs.Ytlbhckndejldcaa
open Go.RowKit
set_option linter.unusedVariables false
@[reducible] def pt0 (k : Int) : Pt := ⟨k, 0, 0, 0, 0, false, false⟩
@[reducible] def stealCells (l : Lay) (m : Pt) (lost : Bool) : Array Value := #[.int .i64 l.verts, .int .i64 l.arcs, .int .i64 l.workers, .int .i64 l.room, .int .i64 l.res, .int .i64 l.ex, .int .i64 l.h, .int .i64 l.flag, .int .i64 l.pending, .int .i64 l.ask, .int .i64 l.count, .int .i64 l.sense, .int .i64 l.deques, .int .i64 l.size, .int .i64 m.w, .int .i64 m.at_, .int .i64 m.t, .int .i64 m.b, .int .i64 m.x, .bool m.done, .bool m.got, .bool lost]
@[reducible] def pushCells (l : Lay) (m : Pt) (v : Int) : Array Value := #[.int .i64 l.verts, .int .i64 l.arcs, .int .i64 l.workers, .int .i64 l.room, .int .i64 l.res, .int .i64 l.ex, .int .i64 l.h, .int .i64 l.flag, .int .i64 l.pending, .int .i64 l.ask, .int .i64 l.count, .int .i64 l.sense, .int .i64 l.deques, .int .i64 l.size, .int .i64 m.w, .int .i64 m.at_, .int .i64 m.t, .int .i64 m.b, .int .i64 m.x, .bool m.done, .bool m.got, .int .i64 v]
theorem DC.steal (l : Lay) (m : Pt) (lost : Bool) : DC (stealCells l m lost) l m := fun j hj => by
  match j, hj with
  | 0, _ | 1, _ | 2, _ | 3, _ | 4, _ | 5, _ | 6, _ | 7, _ | 8, _ | 9, _ | 10, _ | 11, _ | 12, _ | 13, _ | 14, _ | 15, _ | 16, _ | 17, _ | 18, _ | 19, _ | 20, _ => rfl
  | j + 21, hj => omega
theorem DC.push (l : Lay) (m : Pt) (v : Int) : DC (pushCells l m v) l m := fun j hj => by
  match j, hj with
  | 0, _ | 1, _ | 2, _ | 3, _ | 4, _ | 5, _ | 6, _ | 7, _ | 8, _ | 9, _ | 10, _ | 11, _ | 12, _ | 13, _ | 14, _ | 15, _ | 16, _ | 17, _ | 18, _ | 19, _ | 20, _ => rfl
  | j + 21, hj => omega
theorem DC.pop (l : Lay) (m : Pt) : DC (ptCells l m) l m := fun j hj => rfl
end Go.Proofs.Ytlbhckndejldcaa
