/- LogStops: its card holds. Condition: the listed variables start as the program's text lays them (the card ties them). -/
import Derived.Test.YtpfinfneclmjkaaGreatDoorLogStopsRow
namespace Go.Proofs.YtpfinfneclmjkaaGreatDoor.logStops
open Go.ChangeShapes Go.WideShapes Go.ChangeAt Go.RowKit V

/-- no parameter wants a stand-in; the program's own looks are off -/
theorem plain (f : FuncId) (fn : Func) (hf : Tryz.pinned.checked.prog.funcNamed "vennhouse/vennlaw3.LogStops" = some f) (hfn : Tryz.pinned.checked.prog.funcs[f]? = some fn) :
    true = Tryz.pinned.checked.prog.looks [] ∧ ∀ (j : Nat) t, fn.params[j]? = some t → Tryz.pinned.checked.prog.wantsStandIn t = false := by
  obtain rfl : f = 6 := Option.some.inj ((show Tryz.prog.funcNamed "vennhouse/vennlaw3.LogStops" = some 6 by kernel_rfl).symm.trans hf) |>.symm
  obtain rfl : fn = Tryz.f6 := (Option.some.inj (Tryz.func6.symm.trans hfn)).symm
  refine ⟨by kernel_rfl, fun j t ht => ?_⟩
  rw [Tryz.params6] at ht
  match j, ht with
  | 0, ht => obtain rfl : 3 = t := Option.some.inj ht; exact (show Tryz.prog.wantsStandIn 3 = false by kernel_rfl)
  | 1, ht => obtain rfl : 3 = t := Option.some.inj ht; exact (show Tryz.prog.wantsStandIn 3 = false by kernel_rfl)
  | 2, ht => obtain rfl : 3 = t := Option.some.inj ht; exact (show Tryz.prog.wantsStandIn 3 = false by kernel_rfl)
  | j + 3, ht => cases ht
theorem cwf : Rows.logStopsRow.wfByText (OpenSpec.ofChange Rows.logStopsSpec) = true := by kernel_rfl
theorem cmain : Tryz.pinned.checked.prog.mainIs = some (Rows.logStopsCard.stood.harness.1, Rows.logStopsCard.stood.harness.2.toList) := by kernel_rfl
theorem cgoes : false = Rows.logStopsRow.goesBy Tryz.pinned.checked.prog := by kernel_rfl
/-- the card -/
theorem card : Rows.LogStopsCardSaid :=
  Claim7.holds_tied_plain_at .later [] _ _ Rows.logStopsCard.stood.harness _ said (fun _ h => by cases h) cwf (fun _ h => by cases h) logStops_row_tie rfl ⟨rfl, rfl⟩ cmain rfl plain cgoes
end Go.Proofs.YtpfinfneclmjkaaGreatDoor.logStops
