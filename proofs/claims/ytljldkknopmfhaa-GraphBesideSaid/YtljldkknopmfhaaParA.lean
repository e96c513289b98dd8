/- The table of params' rules. -/
import Derived.Deep.WholeRow
import Derived.Test.YtljldkknopmfhaaRows
import Derived.Test.YtljldkknopmfhaaParM
namespace Go.Proofs.Ytljldkknopmfhaa
open Go.RowKit

def ruleC : Array Value := (ruleT.flatMap Rl.cells).toArray
def RulesPost (w : World) (e : Ending) (w' : World) : Prop := e = .returned (.agg ruleC) ∧ Fr No w w'
set_option maxHeartbeats 4000000 in
set_option maxRecDepth 100000 in
theorem rules_law (w : World) : Calls Try.prog 84 #[] w (RulesPost w) := by
  have hz := zero_of_info (P := Try.prog) (t := 115) (v := .agg Try.zeroCells115) (n := 119) (by kernel_rfl)
  have hb : ∀ W, (Instr.build 115 #[(1, .agg #[.int .i64 0, .int .i64 15, .int .i64 0, .int .i64 0, .int .i64 1, .int .i64 0, .int .i64 0]), (2, .agg #[.int .i64 0, .int .i64 15, .int .i64 0, .int .i64 1, .int .i64 0, .int .i64 0, .int .i64 0]), (3, .agg #[.int .i64 0, .int .i64 1000000000, .int .i64 0, .int .i64 1, .int .i64 1, .int .i64 64, .int .i64 0]), (4, .agg #[.int .i64 0, .int .i64 9223372036854775807, .int .i64 0, .int .i64 1, .int .i64 1, .int .i64 64, .int .i64 64]), (5, .agg #[.int .i64 0, .int .i64 1, .int .i64 1, .int .i64 1, .int .i64 1, .int .i64 64, .int .i64 0]), (6, .agg #[.int .i64 0, .int .i64 0, .int .i64 2, .int .i64 1, .int .i64 1, .int .i64 0, .int .i64 0]), (7, .agg #[.int .i64 1, .int .i64 65535, .int .i64 3, .int .i64 1, .int .i64 1, .int .i64 64, .int .i64 0]), (8, .agg #[.int .i64 0, .int .i64 1, .int .i64 0, .int .i64 1, .int .i64 1, .int .i64 128, .int .i64 0]), (9, .agg #[.int .i64 0, .int .i64 0, .int .i64 0, .int .i64 1, .int .i64 1, .int .i64 0, .int .i64 0]), (10, .agg #[.int .i64 0, .int .i64 1000000000, .int .i64 0, .int .i64 1, .int .i64 1, .int .i64 64, .int .i64 0]), (11, .agg #[.int .i64 0, .int .i64 1, .int .i64 0, .int .i64 1, .int .i64 1, .int .i64 320, .int .i64 0]), (12, .agg #[.int .i64 1, .int .i64 4, .int .i64 0, .int .i64 (-1), .int .i64 1, .int .i64 0, .int .i64 0]), (13, .agg #[.int .i64 1, .int .i64 4, .int .i64 3, .int .i64 (-1), .int .i64 1, .int .i64 0, .int .i64 96]), (14, .agg #[.int .i64 1, .int .i64 9223372036854775807, .int .i64 3, .int .i64 2, .int .i64 1, .int .i64 192, .int .i64 128]), (15, .agg #[.int .i64 1, .int .i64 4, .int .i64 0, .int .i64 1, .int .i64 (-1), .int .i64 0, .int .i64 0]), (16, .agg #[.int .i64 1, .int .i64 4, .int .i64 0, .int .i64 1, .int .i64 (-1), .int .i64 64, .int .i64 0])]).run Try.prog W = .ok (.agg ruleC) W := fun W => run_build W 115 _ ruleC (by kernel_rfl)
  have hs := hz.2
  have hcs : (Try.prog.info? 115).map (·.size) = some ruleC.size := by kernel_rfl
  have hcz : Try.zeroCells115.size = ruleC.size := by kernel_rfl
  have hc1 : ruleC.all (·.oneCell') = true := by kernel_rfl
  have HS := Lib.hid hs; have HCS := Lib.hid hcs; have HCZ := Lib.hid hcz; have HC1 := Lib.hid hc1
  have hz1 := hz.1
  clear hs hcs hcz hc1 hz
  go_enter Try.func84, Try.ntmps84
  go_wp2_with (refine wpList_store_row rfl 115 (.tmp 0) (.tmp 17) rfl w.heap.size ruleC rfl rfl 115 Try.zeroCells115 (heap_alloc_last w _) HCS.out HCZ.out HC1.out ?_)
  rw [World.setRow_alloc_new]
  exact bodyPost_ret (v := .agg ruleC) (results_cell_row (p := 0) (ty := 115) (by kernel_rfl) _ _ w.heap.size 115 ruleC (0, 0) (.array 17 90) rfl (heap_alloc_last w _) (by kernel_rfl) rfl HCS.out) rfl ⟨rfl, (Fr.refl _ _).alloc _⟩
end Go.Proofs.Ytljldkknopmfhaa
