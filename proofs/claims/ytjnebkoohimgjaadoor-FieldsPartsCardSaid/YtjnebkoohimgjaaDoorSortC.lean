/- slices.Sort at bytes: the walks over its text, turned from the kit's worked walk at int (Derived.Sort.Walk0). -/
import Derived.Test.YtjnebkoohimgjaaDoorRows
import Derived.Sort.Walk0
namespace Go.Proofs.YtjnebkoohimgjaaDoor

abbrev encB : Int → Value := fun x => Value.int .u8 x

set_option maxHeartbeats 4000000 in
set_option maxRecDepth 100000 in
set_option maxRecDepth 100000 in
theorem Sb.cmp_isNaN_int (x : Int) (w : World) : Calls Tryd.prog 93 #[.int .u8 x] w fun e w' => e = .returned (.bool false) ∧ w' = w := by
  go_enter Tryd.func93, Tryd.ntmps93
  go_wp2
  go_ret
  exact ⟨by simp, rfl⟩

set_option maxHeartbeats 4000000 in
set_option maxRecDepth 100000 in
set_option maxRecDepth 100000 in
theorem Sb.cmp_Less_int (x y : Int) (w : World) : Calls Tryd.prog 81 #[.int .u8 x, .int .u8 y] w fun e w' => e = .returned (.bool (Sort.ltInt x y)) ∧ w' = w := by
  go_enter Tryd.func81, Tryd.ntmps81
  go_wp2_with (go_at_call 93; refine (Sb.cmp_isNaN_int _ _).mono ?_; rintro e w' ⟨rfl, rfl⟩)
  go_ret
  exact ⟨rfl, rfl⟩

end Go.Proofs.YtjnebkoohimgjaaDoor
