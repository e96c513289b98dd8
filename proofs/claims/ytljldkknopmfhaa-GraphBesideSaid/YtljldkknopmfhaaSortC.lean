/- slices.Sort at bytes: the walks over its text, turned from the kit's worked walk at int (Derived.Sort.Walk0). -/
import Derived.Test.YtljldkknopmfhaaRows
import Derived.Sort.Walk0
namespace Go.Proofs.Ytljldkknopmfhaa

abbrev encB : Int → Value := fun x => Value.int .u8 x

set_option maxHeartbeats 4000000 in
set_option maxRecDepth 100000 in
set_option maxRecDepth 100000 in
theorem Sb.cmp_isNaN_int (x : Int) (w : World) : Calls Try.prog 141 #[.int .u8 x] w fun e w' => e = .returned (.bool false) ∧ w' = w := by
  go_enter Try.func141, Try.ntmps141
  go_wp2
  go_ret
  exact ⟨by simp, rfl⟩

set_option maxHeartbeats 4000000 in
set_option maxRecDepth 100000 in
set_option maxRecDepth 100000 in
theorem Sb.cmp_Less_int (x y : Int) (w : World) : Calls Try.prog 128 #[.int .u8 x, .int .u8 y] w fun e w' => e = .returned (.bool (Sort.ltInt x y)) ∧ w' = w := by
  go_enter Try.func128, Try.ntmps128
  go_wp2_with (go_at_call 141; refine (Sb.cmp_isNaN_int _ _).mono ?_; rintro e w' ⟨rfl, rfl⟩)
  go_ret
  exact ⟨rfl, rfl⟩

end Go.Proofs.Ytljldkknopmfhaa
