/- slices.Sort at bytes: the arm of no element, and the whole (turned from the kit's worked assembly at int). -/
import Derived.Test.YtljldkknopmfhaaSortB
import Derived.Test.YtljldkknopmfhaaSortD
import Derived.Test.YtljldkknopmfhaaSortE
import Derived.Test.YtljldkknopmfhaaSortI
import Derived.Test.YtljldkknopmfhaaSortJ
import Derived.Test.YtljldkknopmfhaaSortM
import Derived.Test.YtljldkknopmfhaaSortO
import Derived.Test.YtljldkknopmfhaaSortQ
import Derived.Test.YtljldkknopmfhaaSortR
import Derived.Sort.AssemblyPlain
namespace Go.Proofs.Ytljldkknopmfhaa
open Go.RowKit Go.Sort

set_option maxRecDepth 100000 in
theorem Sb.insertionSort_nil (p : Option Addr) (cap : Nat) (w : World) :
    Calls Try.prog 122 #[.slice p 0 cap, .int .i64 0, .int .i64 0] w fun e w' => e = .returned (.tuple #[]) ∧ w' = w := by
  go_enter Try.func122, Try.ntmps122
  go_wp2
  refine wp_loop_rounds 1 ?_
  rw [rounds_succ]
  go_wp2
  go_end0
  exact ⟨rfl, rfl⟩

set_option maxRecDepth 100000 in
theorem Sb.pdqsort_nil (p : Option Addr) (cap : Nat) (w : World) :
    Calls Try.prog 109 #[.slice p 0 cap, .int .i64 0, .int .i64 0, .int .i64 0] w fun e w' => e = .returned (.tuple #[]) ∧ w' = w := by
  go_enter Try.func109, Try.ntmps109
  go_wp2
  refine wp_loop_rounds 1 ?_
  rw [rounds_succ]
  go_wp2_with (first | (go_at_call 122; refine (Sb.insertionSort_nil p cap _).mono ?_; rintro e w' ⟨rfl, rfl⟩))
  refine bodyPost_ret (results_none rfl _ _ _) rfl ?_
  exact ⟨rfl, rfl⟩

set_option maxRecDepth 100000 in
theorem Sb.Sort_nil (p : Option Addr) (cap : Nat) (w : World) :
    Calls Try.prog 99 #[.slice p 0 cap] w fun e w' => e = .returned (.tuple #[]) ∧ w' = w := by
  have hLen : ∀ w, Calls Try.prog 103 #[.int .u64 0] w fun e w' => e = .returned (.int .i64 0) ∧ w' = w := fun w => Sb.bits_Len 0 w (by omega) (by omega)
  go_enter Try.func99, Try.ntmps99
  go_wp2_with (first
    | (go_at_call 103; refine (hLen _).mono ?_; rintro e w' ⟨rfl, rfl⟩)
    | (go_at_call 109; refine (Sb.pdqsort_nil p cap _).mono ?_; rintro e w' ⟨rfl, rfl⟩))
  go_end0
  exact ⟨rfl, rfl⟩

theorem callees13b : Callees13 where
  ins := Sb.insertionSort_int
  brk := Sb.breakPatterns_int
  piv := Sb.choosePivot_int
  par := Sb.partialInsertionSort_int
  peq := Sb.partitionEqualOrdered_int
  prt := Sb.partitionOrdered_int

theorem plain13b : Plain13 where
  swo := swo_ltInt
  ins := insertionSort_holds
  par := partialInsertionSort_holds
  prt := partition_holds _
  peq := partitionEqual_holds _
  pdq := pdq_sorts _

theorem pdqWalkB : pdqWalk_int := fun blk off cap a b limit d w hH hb hab hbd hsz hl hB =>
  Sb.pdqsort_int callees13b plain13b (b - a + 1) blk off cap a b limit d w (by omega) hH hb hab hbd hsz hl hB

/-- slices.Sort at []byte. -/
theorem Sb.slices_Sort (blk off cap : Nat) (zs : List Int) (w : World) (hH : Holds (Value.int .u8) w blk off zs.toArray) (hblk : blk < w.heap.size) (hsz : zs.length < 4611686018427387904) :
    Calls Try.prog 99 #[.slice (some ⟨blk, off, none⟩) zs.length cap] w fun e w' =>
      e = .returned (.tuple #[]) ∧ ∃ n os, w' = grow (putRow (Value.int .u8) (Sort.ahead w n) blk off (zs.mergeSort fun x y => decide (x ≤ y)).toArray) os := by
  have h := Sb.Sort_int pdqWalkB blk off cap zs.toArray w hH hblk (by simpa using hsz)
  rw [← sortInt zs] at *
  simpa using h
end Go.Proofs.Ytljldkknopmfhaa
