/- What the joined row asks of the whole program, reckoned once. -/
import Derived.Test.YtjnebkoohimgjaaDoorRows
import Derived.JoinedOf
namespace Go.Proofs.YtjnebkoohimgjaaDoor
theorem pf_may : Tryd.pinned.checked.prog.mayEnter = true := by kernel_rfl
theorem pf_lift : Tryd.pinned.checked.prog.liftsFinal = Rows.fieldsGrowsRow.lifted := by kernel_rfl
theorem pf_make : Tryd.pinned.checked.prog.make = some Rows.fieldsGrowsRow.make := by kernel_rfl
end Go.Proofs.YtjnebkoohimgjaaDoor
