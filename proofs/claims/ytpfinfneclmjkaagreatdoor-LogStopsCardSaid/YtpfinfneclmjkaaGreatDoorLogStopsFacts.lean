/- LogStops: closed facts of its row. Condition: the listed variables start as the program's text lays them (the card ties them). -/
import Derived.Test.YtpfinfneclmjkaaGreatDoorRows
import Derived.Test.YtpfinfneclmjkaaGreatDoorArgs
import Derived.JoinedCond
namespace Go.Proofs.YtpfinfneclmjkaaGreatDoor.logStops
open Go.ChangeShapes Go.WideShapes Go.ChangeAt Go.RowKit V

theorem fact1 : (Rows.logStopsRow.inPlace == Tryz.prog.inPlace 6) = true := by kernel_rfl
theorem fact2 : (Rows.logStopsRow.unfollowed == Tryz.prog.unfollowed 6) = true := by kernel_rfl
theorem fact3 : (Rows.logStopsRow.recurses == Tryz.prog.recurses 6) = true := by kernel_rfl
theorem fact4 : (Rows.logStopsRow.named == Tryz.prog.varsNamed 6) = true := by kernel_rfl
theorem fact5 : mapsRowed Tryz.prog = true := by kernel_rfl
theorem fact6 : Tryz.prog.stopsHeard = true := by kernel_rfl
theorem fact7 : Tryz.prog.mayEnter = true := by kernel_rfl
theorem fact8 : (Rows.logStopsRow.lifted == Tryz.prog.liftsFinal) = true := by kernel_rfl
theorem fact9 : (Rows.logStopsRow.plainKeys == Tryz.prog.plainKeys) = true := by kernel_rfl
theorem fact10 : (Tryz.prog.make == some Rows.logStopsRow.make) = true := by kernel_rfl
theorem factN : Tryz.prog.funcNamed "vennhouse/vennlaw3.LogStops" = some 6 := by kernel_rfl
theorem closed : joinedFacts Tryz.prog 6 Tryz.f6 (OpenSpec.ofChange Rows.logStopsSpec).bare Rows.logStopsRow = true := by
  unfold joinedFacts
  rw [fact1, fact2, fact3, fact4, laidOut, fact5, fact6, fact7, fact8, fact9, fact10]
  kernel_rfl
end Go.Proofs.YtpfinfneclmjkaaGreatDoor.logStops
