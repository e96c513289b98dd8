/- What the joined row asks of the whole program, reckoned once. -/
import Derived.Test.YtcplbhjpefmliaaRows
import Derived.JoinedOf
namespace Go.Proofs.Ytcplbhjpefmliaa
theorem pf_may : Try.pinned.checked.prog.mayEnter = true := by kernel_rfl
theorem pf_lift : Try.pinned.checked.prog.liftsFinal = Rows.turnMakesRow.lifted := by kernel_rfl
theorem pf_make : Try.pinned.checked.prog.make = some Rows.turnMakesRow.make := by kernel_rfl
end Go.Proofs.Ytcplbhjpefmliaa
