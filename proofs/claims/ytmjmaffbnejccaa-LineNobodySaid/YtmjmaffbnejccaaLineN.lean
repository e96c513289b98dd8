/- LineNobody: the walk. -/
import Derived.Test.YtmjmaffbnejccaaLineA
import Derived.Test.YtmjmaffbnejccaaLift
namespace Go.Proofs.Ytmjmaffbnejccaa
open Go.RowKit

theorem walk_lineNobody (w : World) {v : Value} (l : List UInt8) (_ : IsB w v l) : Calls Try.prog 5 #[v] w (TruePost w) := by
  go_enter Try.func5, Try.ntmps5
  go_wp2_with (first
    | (go_at_call 12; refine (cut_nil _ _).mono ?_; rintro e w' ⟨rfl, rfl⟩)
    | (go_at_call 10; refine (rest_nil _).mono ?_; rintro e w' ⟨rfl, rfl⟩)
    | (go_at_call 15; refine (begun_nil _).mono ?_; rintro e w' ⟨rfl, rfl⟩)
    | (go_at_call 9; refine (awake_any _).mono ?_; rintro e w1 ⟨rfl, hfr⟩))
  go_ret
  exact ⟨rfl, hfr⟩
end Go.Proofs.Ytmjmaffbnejccaa
