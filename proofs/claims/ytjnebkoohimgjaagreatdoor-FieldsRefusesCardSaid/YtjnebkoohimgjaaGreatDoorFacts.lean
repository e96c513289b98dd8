/- What the joined row asks of the whole program, reckoned once. -/
import Derived.Test.YtjnebkoohimgjaaGreatDoorRows
import Derived.JoinedOf
namespace Go.Proofs.YtjnebkoohimgjaaGreatDoor
theorem pf_may : Tryz.pinned.checked.prog.mayEnter = true := by kernel_rfl
theorem pf_lift : Tryz.pinned.checked.prog.liftsFinal = Rows.fieldsRefusesRow.lifted := by kernel_rfl
theorem pf_make : Tryz.pinned.checked.prog.make = some Rows.fieldsRefusesRow.make := by kernel_rfl
end Go.Proofs.YtjnebkoohimgjaaGreatDoor
