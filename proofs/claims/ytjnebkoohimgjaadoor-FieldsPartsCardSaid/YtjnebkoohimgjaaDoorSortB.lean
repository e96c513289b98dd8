/- slices.Sort at bytes: the walks over its text, turned from the kit's worked walk at int (Derived.Ground.So_math_bits_Len). -/
import Derived.Test.YtjnebkoohimgjaaDoorRows
import Derived.Ground.So_math_bits_Len
import Derived.Test.YtjnebkoohimgjaaDoorSortA
namespace Go.Proofs.YtjnebkoohimgjaaDoor

set_option maxHeartbeats 4000000 in
set_option maxRecDepth 100000 in
set_option maxRecDepth 100000 in
theorem Sb.bits_Len (x : Int) (w : World) (h0 : 0 ≤ x) (h1 : x ≤ 18446744073709551615) :
    Calls Tryd.prog 69 #[.int .u64 x] w fun e w' => e = .returned (.int .i64 (Lib.bitLen x.toNat)) ∧ w' = w := by
  go_enter Tryd.func69, Tryd.ntmps69
  go_wp2_with (go_at_call 85; refine (Sb.bits_Len64 x _ h0 h1).mono ?_; rintro e w' ⟨rfl, rfl⟩)
  go_ret
  exact ⟨rfl, rfl⟩

end Go.Proofs.YtjnebkoohimgjaaDoor
