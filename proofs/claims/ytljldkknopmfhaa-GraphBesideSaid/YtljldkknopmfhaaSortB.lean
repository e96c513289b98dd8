/- slices.Sort at bytes: the walks over its text, turned from the kit's worked walk at int (Derived.Ground.So_math_bits_Len). -/
import Derived.Test.YtljldkknopmfhaaRows
import Derived.Ground.So_math_bits_Len
import Derived.Test.YtljldkknopmfhaaSortA
namespace Go.Proofs.Ytljldkknopmfhaa

set_option maxHeartbeats 4000000 in
set_option maxRecDepth 100000 in
set_option maxRecDepth 100000 in
theorem Sb.bits_Len (x : Int) (w : World) (h0 : 0 ≤ x) (h1 : x ≤ 18446744073709551615) :
    Calls Try.prog 103 #[.int .u64 x] w fun e w' => e = .returned (.int .i64 (Lib.bitLen x.toNat)) ∧ w' = w := by
  go_enter Try.func103, Try.ntmps103
  go_wp2_with (go_at_call 120; refine (Sb.bits_Len64 x _ h0 h1).mono ?_; rintro e w' ⟨rfl, rfl⟩)
  go_ret
  exact ⟨rfl, rfl⟩

end Go.Proofs.Ytljldkknopmfhaa
