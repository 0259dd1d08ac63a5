/-
  No cell of these rows narrows 'for every input' (looked for: loops, veiled, ifaces, maps, wideKeys, modest, calm, conditions, laid).
  DERIVED. THE GIVEN ROWS OF THIS SEAT. 12 by the template 'for every input the law returns true; each argument reads behind the call as it read before'; 0 by the template 'total and deterministic' (their statements: YtklkopoelhndoaaTotals.lean).
  GIVEN WITH THE SEED: the statements are not yours to turn. If you find one false, say at which input.
  Laid BY PROGRAM, IN A SANDBOX (cutbox-rows.mjs): the forced cells as the released guide's own fill.sh prints them over the translation 36fd9714596a282b… (all of the seat's roots in one cut). By AI agents, Wed Nov 11 2026. No macro, syntax, notation, axiom, sorry.
-/
import Derived.Test.YtklkopoelhndoaaChecked
import GoSem.Claim
import GoSem.ClaimJoined
import GoSem.ClaimMapViews
import Derived.JoinedTies
import Derived.KernelRfl
namespace Go.Proofs.Ytklkopoelhndoaa
/- THE CELL 'sum', in the pinned program and in every row, IS THE sha256 OF THE DUMP (.gsa) THAT YtklkopoelhndoaaProg.lean LOADS. Nothing in Lean hashes anything: it is a label: what it is worth is what the hold of that sum in a sandbox is worth. -/
noncomputable def Try.pinned : Pinned := { name := "ytklkopoelhndoaa", sum := "36fd9714596a282b2c3b0248b1b1af755a5dd4e9e376e0997efb2b53b8c7aa8c", checked := Try.checked }
namespace Rows
def none {H : Type} : Left H := { results := [], args := [] }

/-- 'acequialaw12.FlagsOne': WHATEVER THE INPUT: true; the input reads as it did. -/
def flagsOneSpec : ChangeSpec := { name := "flagsOne", fn := fun _ => fun
  | [d1, d2, d3, d4] => { results := [.lit (.bool true)], args := [d1, d2, d3, d4] }
  | _ => none }
def flagsOneRow : OpenClaim := { program := "ytklkopoelhndoaa", sum := "36fd9714596a282b2c3b0248b1b1af755a5dd4e9e376e0997efb2b53b8c7aa8c", func := "acequia/acequialaw12.FlagsOne", spec := "flagsOne", inPlace := ["sync/atomic.StoreInt64", "sync/atomic.CompareAndSwapInt64", "sync/atomic.LoadInt64"], unfollowed := true, recurses := true, apart := false }
def FlagsOneSaid : Prop := flagsOneRow.holds Try.pinned (OpenSpec.ofChange flagsOneSpec)

/-- ITS FALSE NEIGHBOUR: 'it returns false'. Refute it at one input. -/
def flagsOneWrong : ChangeSpec := { name := "flagsOne", fn := fun _ => fun
  | [d1, d2, d3, d4] => { results := [.lit (.bool false)], args := [d1, d2, d3, d4] }
  | _ => none }
def FlagsOneWrongFalsely : Prop := flagsOneRow.holds Try.pinned (OpenSpec.ofChange flagsOneWrong)

/-- 'acequialaw12.FlagsAll': WHATEVER THE INPUT: true; the input reads as it did. -/
def flagsAllSpec : ChangeSpec := { name := "flagsAll", fn := fun _ => fun
  | [d1, d2] => { results := [.lit (.bool true)], args := [d1, d2] }
  | _ => none }
def flagsAllRow : OpenClaim := { program := "ytklkopoelhndoaa", sum := "36fd9714596a282b2c3b0248b1b1af755a5dd4e9e376e0997efb2b53b8c7aa8c", func := "acequia/acequialaw12.FlagsAll", spec := "flagsAll", inPlace := ["sync/atomic.CompareAndSwapInt64", "sync/atomic.StoreInt64", "sync/atomic.LoadInt64"], unfollowed := true, recurses := true, apart := false }
def FlagsAllSaid : Prop := flagsAllRow.holds Try.pinned (OpenSpec.ofChange flagsAllSpec)

/-- ITS FALSE NEIGHBOUR: 'it returns false'. Refute it at one input. -/
def flagsAllWrong : ChangeSpec := { name := "flagsAll", fn := fun _ => fun
  | [d1, d2] => { results := [.lit (.bool false)], args := [d1, d2] }
  | _ => none }
def FlagsAllWrongFalsely : Prop := flagsAllRow.holds Try.pinned (OpenSpec.ofChange flagsAllWrong)

/-- 'acequialaw13.CountPending': WHATEVER THE INPUT: true; the input reads as it did. -/
def countPendingSpec : ChangeSpec := { name := "countPending", fn := fun _ => fun
  | [d] => { results := [.lit (.bool true)], args := [d] }
  | _ => none }
def countPendingRow : OpenClaim := { program := "ytklkopoelhndoaa", sum := "36fd9714596a282b2c3b0248b1b1af755a5dd4e9e376e0997efb2b53b8c7aa8c", func := "acequia/acequialaw13.CountPending", spec := "countPending", inPlace := ["sync/atomic.AddInt64", "sync/atomic.LoadInt64", "sync/atomic.StoreInt64"], unfollowed := true, recurses := true, apart := false }
def CountPendingSaid : Prop := countPendingRow.holds Try.pinned (OpenSpec.ofChange countPendingSpec)

/-- ITS FALSE NEIGHBOUR: 'it returns false'. Refute it at one input. -/
def countPendingWrong : ChangeSpec := { name := "countPending", fn := fun _ => fun
  | [d] => { results := [.lit (.bool false)], args := [d] }
  | _ => none }
def CountPendingWrongFalsely : Prop := countPendingRow.holds Try.pinned (OpenSpec.ofChange countPendingWrong)

/-- 'acequialaw13.CountAsk': WHATEVER THE INPUT: true; the input reads as it did. -/
def countAskSpec : ChangeSpec := { name := "countAsk", fn := fun _ => fun
  | [d1, d2] => { results := [.lit (.bool true)], args := [d1, d2] }
  | _ => none }
def countAskRow : OpenClaim := { program := "ytklkopoelhndoaa", sum := "36fd9714596a282b2c3b0248b1b1af755a5dd4e9e376e0997efb2b53b8c7aa8c", func := "acequia/acequialaw13.CountAsk", spec := "countAsk", inPlace := ["sync/atomic.AddInt64", "sync/atomic.LoadInt64", "sync/atomic.StoreInt64"], unfollowed := true, recurses := true, apart := false }
def CountAskSaid : Prop := countAskRow.holds Try.pinned (OpenSpec.ofChange countAskSpec)

/-- ITS FALSE NEIGHBOUR: 'it returns false'. Refute it at one input. -/
def countAskWrong : ChangeSpec := { name := "countAsk", fn := fun _ => fun
  | [d1, d2] => { results := [.lit (.bool false)], args := [d1, d2] }
  | _ => none }
def CountAskWrongFalsely : Prop := countAskRow.holds Try.pinned (OpenSpec.ofChange countAskWrong)

/-- 'acequialaw13.CountOrder': WHATEVER THE INPUT: true; the input reads as it did. -/
def countOrderSpec : ChangeSpec := { name := "countOrder", fn := fun _ => fun
  | [d1, d2] => { results := [.lit (.bool true)], args := [d1, d2] }
  | _ => none }
def countOrderRow : OpenClaim := { program := "ytklkopoelhndoaa", sum := "36fd9714596a282b2c3b0248b1b1af755a5dd4e9e376e0997efb2b53b8c7aa8c", func := "acequia/acequialaw13.CountOrder", spec := "countOrder", inPlace := ["sync/atomic.AddInt64", "sync/atomic.LoadInt64", "sync/atomic.StoreInt64"], unfollowed := true, recurses := true, apart := false }
def CountOrderSaid : Prop := countOrderRow.holds Try.pinned (OpenSpec.ofChange countOrderSpec)

/-- ITS FALSE NEIGHBOUR: 'it returns false'. Refute it at one input. -/
def countOrderWrong : ChangeSpec := { name := "countOrder", fn := fun _ => fun
  | [d1, d2] => { results := [.lit (.bool false)], args := [d1, d2] }
  | _ => none }
def CountOrderWrongFalsely : Prop := countOrderRow.holds Try.pinned (OpenSpec.ofChange countOrderWrong)

/-- 'acequialaw14.BarrierAll': WHATEVER THE INPUT: true; the input reads as it did. -/
def barrierAllSpec : ChangeSpec := { name := "barrierAll", fn := fun _ => fun
  | [d1, d2] => { results := [.lit (.bool true)], args := [d1, d2] }
  | _ => none }
def barrierAllRow : OpenClaim := { program := "ytklkopoelhndoaa", sum := "36fd9714596a282b2c3b0248b1b1af755a5dd4e9e376e0997efb2b53b8c7aa8c", func := "acequia/acequialaw14.BarrierAll", spec := "barrierAll", inPlace := ["sync/atomic.StoreInt64", "sync/atomic.LoadInt64", "sync/atomic.AddInt64"], unfollowed := true, recurses := true, apart := false }
def BarrierAllSaid : Prop := barrierAllRow.holds Try.pinned (OpenSpec.ofChange barrierAllSpec)

/-- ITS FALSE NEIGHBOUR: 'it returns false'. Refute it at one input. -/
def barrierAllWrong : ChangeSpec := { name := "barrierAll", fn := fun _ => fun
  | [d1, d2] => { results := [.lit (.bool false)], args := [d1, d2] }
  | _ => none }
def BarrierAllWrongFalsely : Prop := barrierAllRow.holds Try.pinned (OpenSpec.ofChange barrierAllWrong)

/-- 'acequialaw14.BarrierWaits': WHATEVER THE INPUT: true; the input reads as it did. -/
def barrierWaitsSpec : ChangeSpec := { name := "barrierWaits", fn := fun _ => fun
  | [d1, d2, d3, d4] => { results := [.lit (.bool true)], args := [d1, d2, d3, d4] }
  | _ => none }
def barrierWaitsRow : OpenClaim := { program := "ytklkopoelhndoaa", sum := "36fd9714596a282b2c3b0248b1b1af755a5dd4e9e376e0997efb2b53b8c7aa8c", func := "acequia/acequialaw14.BarrierWaits", spec := "barrierWaits", inPlace := ["sync/atomic.StoreInt64", "sync/atomic.LoadInt64", "sync/atomic.AddInt64"], unfollowed := true, recurses := true, apart := false }
def BarrierWaitsSaid : Prop := barrierWaitsRow.holds Try.pinned (OpenSpec.ofChange barrierWaitsSpec)

/-- ITS FALSE NEIGHBOUR: 'it returns false'. Refute it at one input. -/
def barrierWaitsWrong : ChangeSpec := { name := "barrierWaits", fn := fun _ => fun
  | [d1, d2, d3, d4] => { results := [.lit (.bool false)], args := [d1, d2, d3, d4] }
  | _ => none }
def BarrierWaitsWrongFalsely : Prop := barrierWaitsRow.holds Try.pinned (OpenSpec.ofChange barrierWaitsWrong)

/-- 'acequialaw12.FlagsTells': WHATEVER THE INPUT: true; the input reads as it did. -/
def flagsTellsSpec : ChangeSpec := { name := "flagsTells", fn := fun _ => fun
  | [d1, d2] => { results := [.lit (.bool true)], args := [d1, d2] }
  | _ => none }
def flagsTellsRow : OpenClaim := { program := "ytklkopoelhndoaa", sum := "36fd9714596a282b2c3b0248b1b1af755a5dd4e9e376e0997efb2b53b8c7aa8c", func := "acequia/acequialaw12.FlagsTells", spec := "flagsTells", inPlace := ["sync/atomic.StoreInt64", "sync/atomic.CompareAndSwapInt64", "sync/atomic.LoadInt64"], unfollowed := true, recurses := true, apart := false }
def FlagsTellsSaid : Prop := flagsTellsRow.holds Try.pinned (OpenSpec.ofChange flagsTellsSpec)

/-- ITS FALSE NEIGHBOUR: 'it returns false'. Refute it at one input. -/
def flagsTellsWrong : ChangeSpec := { name := "flagsTells", fn := fun _ => fun
  | [d1, d2] => { results := [.lit (.bool false)], args := [d1, d2] }
  | _ => none }
def FlagsTellsWrongFalsely : Prop := flagsTellsRow.holds Try.pinned (OpenSpec.ofChange flagsTellsWrong)

/-- 'acequialaw12.FlagsElse': WHATEVER THE INPUT: true; the input reads as it did. -/
def flagsElseSpec : ChangeSpec := { name := "flagsElse", fn := fun _ => fun
  | [d1, d2, d3] => { results := [.lit (.bool true)], args := [d1, d2, d3] }
  | _ => none }
def flagsElseRow : OpenClaim := { program := "ytklkopoelhndoaa", sum := "36fd9714596a282b2c3b0248b1b1af755a5dd4e9e376e0997efb2b53b8c7aa8c", func := "acequia/acequialaw12.FlagsElse", spec := "flagsElse", inPlace := ["sync/atomic.StoreInt64", "sync/atomic.LoadInt64", "sync/atomic.CompareAndSwapInt64"], unfollowed := true, recurses := true, apart := false }
def FlagsElseSaid : Prop := flagsElseRow.holds Try.pinned (OpenSpec.ofChange flagsElseSpec)

/-- ITS FALSE NEIGHBOUR: 'it returns false'. Refute it at one input. -/
def flagsElseWrong : ChangeSpec := { name := "flagsElse", fn := fun _ => fun
  | [d1, d2, d3] => { results := [.lit (.bool false)], args := [d1, d2, d3] }
  | _ => none }
def FlagsElseWrongFalsely : Prop := flagsElseRow.holds Try.pinned (OpenSpec.ofChange flagsElseWrong)

/-- 'acequialaw13.CountTells': WHATEVER THE INPUT: true; the input reads as it did. -/
def countTellsSpec : ChangeSpec := { name := "countTells", fn := fun _ => fun
  | [d] => { results := [.lit (.bool true)], args := [d] }
  | _ => none }
def countTellsRow : OpenClaim := { program := "ytklkopoelhndoaa", sum := "36fd9714596a282b2c3b0248b1b1af755a5dd4e9e376e0997efb2b53b8c7aa8c", func := "acequia/acequialaw13.CountTells", spec := "countTells", inPlace := ["sync/atomic.AddInt64", "sync/atomic.LoadInt64", "sync/atomic.StoreInt64"], unfollowed := true, recurses := true, apart := false }
def CountTellsSaid : Prop := countTellsRow.holds Try.pinned (OpenSpec.ofChange countTellsSpec)

/-- ITS FALSE NEIGHBOUR: 'it returns false'. Refute it at one input. -/
def countTellsWrong : ChangeSpec := { name := "countTells", fn := fun _ => fun
  | [d] => { results := [.lit (.bool false)], args := [d] }
  | _ => none }
def CountTellsWrongFalsely : Prop := countTellsRow.holds Try.pinned (OpenSpec.ofChange countTellsWrong)

/-- 'acequialaw14.BarrierTells': WHATEVER THE INPUT: true; the input reads as it did. -/
def barrierTellsSpec : ChangeSpec := { name := "barrierTells", fn := fun _ => fun
  | [d1, d2] => { results := [.lit (.bool true)], args := [d1, d2] }
  | _ => none }
def barrierTellsRow : OpenClaim := { program := "ytklkopoelhndoaa", sum := "36fd9714596a282b2c3b0248b1b1af755a5dd4e9e376e0997efb2b53b8c7aa8c", func := "acequia/acequialaw14.BarrierTells", spec := "barrierTells", inPlace := ["sync/atomic.StoreInt64", "sync/atomic.LoadInt64", "sync/atomic.AddInt64"], unfollowed := true, recurses := true, apart := false }
def BarrierTellsSaid : Prop := barrierTellsRow.holds Try.pinned (OpenSpec.ofChange barrierTellsSpec)

/-- ITS FALSE NEIGHBOUR: 'it returns false'. Refute it at one input. -/
def barrierTellsWrong : ChangeSpec := { name := "barrierTells", fn := fun _ => fun
  | [d1, d2] => { results := [.lit (.bool false)], args := [d1, d2] }
  | _ => none }
def BarrierTellsWrongFalsely : Prop := barrierTellsRow.holds Try.pinned (OpenSpec.ofChange barrierTellsWrong)

/-- 'acequialaw14.BarrierElse': WHATEVER THE INPUT: true; the input reads as it did. -/
def barrierElseSpec : ChangeSpec := { name := "barrierElse", fn := fun _ => fun
  | [d1, d2] => { results := [.lit (.bool true)], args := [d1, d2] }
  | _ => none }
def barrierElseRow : OpenClaim := { program := "ytklkopoelhndoaa", sum := "36fd9714596a282b2c3b0248b1b1af755a5dd4e9e376e0997efb2b53b8c7aa8c", func := "acequia/acequialaw14.BarrierElse", spec := "barrierElse", inPlace := ["sync/atomic.StoreInt64", "sync/atomic.LoadInt64", "sync/atomic.AddInt64"], unfollowed := true, recurses := true, apart := false }
def BarrierElseSaid : Prop := barrierElseRow.holds Try.pinned (OpenSpec.ofChange barrierElseSpec)

/-- ITS FALSE NEIGHBOUR: 'it returns false'. Refute it at one input. -/
def barrierElseWrong : ChangeSpec := { name := "barrierElse", fn := fun _ => fun
  | [d1, d2] => { results := [.lit (.bool false)], args := [d1, d2] }
  | _ => none }
def BarrierElseWrongFalsely : Prop := barrierElseRow.holds Try.pinned (OpenSpec.ofChange barrierElseWrong)

/- THE SECOND FORM. 'bulk': how many values and letters a reading holds, each counted each time it is reached (what is shared counts as often as it is met; a slice's spare places count too). A statement '..UptoSaid' is the law's where the arguments, and the package variables that the reading takes, are together of bulk at most 1048576: NARROWER than '..Said'. Prove '..Said' where nothing that the law and all that it calls make is longer than what came in: it says more and counts as full. Else prove '..UptoSaid'. A law counts once. -/
mutual
def uptoBulk {H : Type} : DataW H → Nat
  | .lit (.string bytes) => bytes.length + 1
  | .lit _ => 1
  | .nil => 1
  | .ptr d => uptoBulk d + 1
  | .slice elems spare => uptoBulkAll elems + uptoBulkAll spare + 1
  | .agg parts => uptoBulkAll parts + 1
  | .iface _ d => uptoBulk d + 1
  | .map entries => uptoBulkEntries entries + 1
  | .held _ => 1
def uptoBulkAll {H : Type} : List (DataW H) → Nat
  | [] => 0
  | d :: r => uptoBulk d + uptoBulkAll r
def uptoBulkEntries {H : Type} : List (Lit × DataW H) → Nat
  | [] => 0
  | x :: r => uptoBulkEntry x + uptoBulkEntries r
def uptoBulkEntry {H : Type} : Lit × DataW H → Nat
  | (.string bytes, d) => bytes.length + uptoBulk d + 1
  | (_, d) => uptoBulk d + 1
 end
def uptoSmall : (H : Type) → List (DataW H) → Bool := fun _ ds => decide (uptoBulkAll ds ≤ 1048576)
def OpenSpec.upto (s : _root_.Go.ChangeSpec) : _root_.Go.OpenSpec := { _root_.Go.OpenSpec.ofChange s with cond := some uptoSmall }

/-- 'acequialaw12.FlagsOne', WHERE WHAT IT READS IS OF BULK AT MOST 1048576: true; the input reads as it did. -/
def flagsOneUptoRow : OpenClaim := { program := "ytklkopoelhndoaa", sum := "36fd9714596a282b2c3b0248b1b1af755a5dd4e9e376e0997efb2b53b8c7aa8c", func := "acequia/acequialaw12.FlagsOne", spec := "flagsOne", inPlace := ["sync/atomic.StoreInt64", "sync/atomic.CompareAndSwapInt64", "sync/atomic.LoadInt64"], unfollowed := true, recurses := true, apart := false, narrowed := true }
def FlagsOneUptoSaid : Prop := flagsOneUptoRow.holds Try.pinned (OpenSpec.upto flagsOneSpec)

/-- 'acequialaw12.FlagsAll', WHERE WHAT IT READS IS OF BULK AT MOST 1048576: true; the input reads as it did. -/
def flagsAllUptoRow : OpenClaim := { program := "ytklkopoelhndoaa", sum := "36fd9714596a282b2c3b0248b1b1af755a5dd4e9e376e0997efb2b53b8c7aa8c", func := "acequia/acequialaw12.FlagsAll", spec := "flagsAll", inPlace := ["sync/atomic.CompareAndSwapInt64", "sync/atomic.StoreInt64", "sync/atomic.LoadInt64"], unfollowed := true, recurses := true, apart := false, narrowed := true }
def FlagsAllUptoSaid : Prop := flagsAllUptoRow.holds Try.pinned (OpenSpec.upto flagsAllSpec)

/-- 'acequialaw13.CountPending', WHERE WHAT IT READS IS OF BULK AT MOST 1048576: true; the input reads as it did. -/
def countPendingUptoRow : OpenClaim := { program := "ytklkopoelhndoaa", sum := "36fd9714596a282b2c3b0248b1b1af755a5dd4e9e376e0997efb2b53b8c7aa8c", func := "acequia/acequialaw13.CountPending", spec := "countPending", inPlace := ["sync/atomic.AddInt64", "sync/atomic.LoadInt64", "sync/atomic.StoreInt64"], unfollowed := true, recurses := true, apart := false, narrowed := true }
def CountPendingUptoSaid : Prop := countPendingUptoRow.holds Try.pinned (OpenSpec.upto countPendingSpec)

/-- 'acequialaw13.CountAsk', WHERE WHAT IT READS IS OF BULK AT MOST 1048576: true; the input reads as it did. -/
def countAskUptoRow : OpenClaim := { program := "ytklkopoelhndoaa", sum := "36fd9714596a282b2c3b0248b1b1af755a5dd4e9e376e0997efb2b53b8c7aa8c", func := "acequia/acequialaw13.CountAsk", spec := "countAsk", inPlace := ["sync/atomic.AddInt64", "sync/atomic.LoadInt64", "sync/atomic.StoreInt64"], unfollowed := true, recurses := true, apart := false, narrowed := true }
def CountAskUptoSaid : Prop := countAskUptoRow.holds Try.pinned (OpenSpec.upto countAskSpec)

/-- 'acequialaw13.CountOrder', WHERE WHAT IT READS IS OF BULK AT MOST 1048576: true; the input reads as it did. -/
def countOrderUptoRow : OpenClaim := { program := "ytklkopoelhndoaa", sum := "36fd9714596a282b2c3b0248b1b1af755a5dd4e9e376e0997efb2b53b8c7aa8c", func := "acequia/acequialaw13.CountOrder", spec := "countOrder", inPlace := ["sync/atomic.AddInt64", "sync/atomic.LoadInt64", "sync/atomic.StoreInt64"], unfollowed := true, recurses := true, apart := false, narrowed := true }
def CountOrderUptoSaid : Prop := countOrderUptoRow.holds Try.pinned (OpenSpec.upto countOrderSpec)

/-- 'acequialaw14.BarrierAll', WHERE WHAT IT READS IS OF BULK AT MOST 1048576: true; the input reads as it did. -/
def barrierAllUptoRow : OpenClaim := { program := "ytklkopoelhndoaa", sum := "36fd9714596a282b2c3b0248b1b1af755a5dd4e9e376e0997efb2b53b8c7aa8c", func := "acequia/acequialaw14.BarrierAll", spec := "barrierAll", inPlace := ["sync/atomic.StoreInt64", "sync/atomic.LoadInt64", "sync/atomic.AddInt64"], unfollowed := true, recurses := true, apart := false, narrowed := true }
def BarrierAllUptoSaid : Prop := barrierAllUptoRow.holds Try.pinned (OpenSpec.upto barrierAllSpec)

/-- 'acequialaw14.BarrierWaits', WHERE WHAT IT READS IS OF BULK AT MOST 1048576: true; the input reads as it did. -/
def barrierWaitsUptoRow : OpenClaim := { program := "ytklkopoelhndoaa", sum := "36fd9714596a282b2c3b0248b1b1af755a5dd4e9e376e0997efb2b53b8c7aa8c", func := "acequia/acequialaw14.BarrierWaits", spec := "barrierWaits", inPlace := ["sync/atomic.StoreInt64", "sync/atomic.LoadInt64", "sync/atomic.AddInt64"], unfollowed := true, recurses := true, apart := false, narrowed := true }
def BarrierWaitsUptoSaid : Prop := barrierWaitsUptoRow.holds Try.pinned (OpenSpec.upto barrierWaitsSpec)

/-- 'acequialaw12.FlagsTells', WHERE WHAT IT READS IS OF BULK AT MOST 1048576: true; the input reads as it did. -/
def flagsTellsUptoRow : OpenClaim := { program := "ytklkopoelhndoaa", sum := "36fd9714596a282b2c3b0248b1b1af755a5dd4e9e376e0997efb2b53b8c7aa8c", func := "acequia/acequialaw12.FlagsTells", spec := "flagsTells", inPlace := ["sync/atomic.StoreInt64", "sync/atomic.CompareAndSwapInt64", "sync/atomic.LoadInt64"], unfollowed := true, recurses := true, apart := false, narrowed := true }
def FlagsTellsUptoSaid : Prop := flagsTellsUptoRow.holds Try.pinned (OpenSpec.upto flagsTellsSpec)

/-- 'acequialaw12.FlagsElse', WHERE WHAT IT READS IS OF BULK AT MOST 1048576: true; the input reads as it did. -/
def flagsElseUptoRow : OpenClaim := { program := "ytklkopoelhndoaa", sum := "36fd9714596a282b2c3b0248b1b1af755a5dd4e9e376e0997efb2b53b8c7aa8c", func := "acequia/acequialaw12.FlagsElse", spec := "flagsElse", inPlace := ["sync/atomic.StoreInt64", "sync/atomic.LoadInt64", "sync/atomic.CompareAndSwapInt64"], unfollowed := true, recurses := true, apart := false, narrowed := true }
def FlagsElseUptoSaid : Prop := flagsElseUptoRow.holds Try.pinned (OpenSpec.upto flagsElseSpec)

/-- 'acequialaw13.CountTells', WHERE WHAT IT READS IS OF BULK AT MOST 1048576: true; the input reads as it did. -/
def countTellsUptoRow : OpenClaim := { program := "ytklkopoelhndoaa", sum := "36fd9714596a282b2c3b0248b1b1af755a5dd4e9e376e0997efb2b53b8c7aa8c", func := "acequia/acequialaw13.CountTells", spec := "countTells", inPlace := ["sync/atomic.AddInt64", "sync/atomic.LoadInt64", "sync/atomic.StoreInt64"], unfollowed := true, recurses := true, apart := false, narrowed := true }
def CountTellsUptoSaid : Prop := countTellsUptoRow.holds Try.pinned (OpenSpec.upto countTellsSpec)

/-- 'acequialaw14.BarrierTells', WHERE WHAT IT READS IS OF BULK AT MOST 1048576: true; the input reads as it did. -/
def barrierTellsUptoRow : OpenClaim := { program := "ytklkopoelhndoaa", sum := "36fd9714596a282b2c3b0248b1b1af755a5dd4e9e376e0997efb2b53b8c7aa8c", func := "acequia/acequialaw14.BarrierTells", spec := "barrierTells", inPlace := ["sync/atomic.StoreInt64", "sync/atomic.LoadInt64", "sync/atomic.AddInt64"], unfollowed := true, recurses := true, apart := false, narrowed := true }
def BarrierTellsUptoSaid : Prop := barrierTellsUptoRow.holds Try.pinned (OpenSpec.upto barrierTellsSpec)

/-- 'acequialaw14.BarrierElse', WHERE WHAT IT READS IS OF BULK AT MOST 1048576: true; the input reads as it did. -/
def barrierElseUptoRow : OpenClaim := { program := "ytklkopoelhndoaa", sum := "36fd9714596a282b2c3b0248b1b1af755a5dd4e9e376e0997efb2b53b8c7aa8c", func := "acequia/acequialaw14.BarrierElse", spec := "barrierElse", inPlace := ["sync/atomic.StoreInt64", "sync/atomic.LoadInt64", "sync/atomic.AddInt64"], unfollowed := true, recurses := true, apart := false, narrowed := true }
def BarrierElseUptoSaid : Prop := barrierElseUptoRow.holds Try.pinned (OpenSpec.upto barrierElseSpec)

end Rows
end Go.Proofs.Ytklkopoelhndoaa
