import Derived.Test.YtipfoclmdbbjiaaU01
import Derived.RangeFuncNested
import Derived.RangeFuncBound
import Derived.RangeFuncCalls
import Derived.RangeFuncLeaves
import Derived.RangeFuncBox
import Derived.Shelf.Abstract
import Derived.Shelf.RegionOpen
import Derived.WalkKit
import Derived.OwnWalkIn
import Derived.TacticsInMore
import Derived.LoopNIn
import Derived.LoopIn
import Derived.Maps.AppendAt
/- A function value compared with nil; the head of a text that ranges over a function. Lemmas alone. -/
namespace Go.Proofs.Ytipfoclmdbbjiaa
open Go.RowKit
set_option maxRecDepth 100000 in
theorem run_equalIn_func_nil {P : Program} (w : World) (d : Nat) (t : TypeId) {ps rs : Array TypeId} {vd : Bool} (fn : Fn) (fi ca : Array Value) (h : P.underlying t = some (.func ps rs vd)) :
    (Op.equalIn (d + 1) t (.func fn fi ca) .nilFunc).run P w = .ok false w := by
  simp [Op.equalIn, run_underlying h]
set_option maxRecDepth 100000 in
theorem run_eql_func_nil {P : Program} (w : World) (t : TypeId) {ps rs : Array TypeId} {vd : Bool} (fn : Fn) (fi ca : Array Value) (h : P.underlying t = some (.func ps rs vd)) :
    (binOp .eql t (.func fn fi ca) .nilFunc).run P w = .ok (.bool false) w := by
  simp only [binOp]
  simp [Op.equal, Op.maxDepth, run_equalIn_func_nil w 9999 t fn fi ca h]
end Go.Proofs.Ytipfoclmdbbjiaa
