/- The law Once: every goal has one decision and one outcome, whatever crashes. No conditions. -/
import Derived.Test.YtndkifkaejmibaaGreatDoorSoo

namespace Go.Proofs.YtndkifkaejmibaaGreatDoor
open Go.RowKit
set_option maxRecDepth 4000
set_option linter.unusedVariables false
set_option linter.unusedSimpArgs false
set_option maxHeartbeats 16000000

structure OpR where
  kd : Int
  c : Int
  d : Int
  at_ : Int
  sp : Int
  kp : Int
  tx : List UInt8
abbrev OpR.cells (x : OpR) : List Value := opC x.kd x.c x.d x.at_ x.sp x.kp x.tx
theorem crashOp_ok {m : Med} (h : m.Ok) (k : Int) : (m.crashOp k).2.Ok := by
  unfold Med.crashOp
  split
  · exact h
  · exact h.crash k
end Go.Proofs.YtndkifkaejmibaaGreatDoor
