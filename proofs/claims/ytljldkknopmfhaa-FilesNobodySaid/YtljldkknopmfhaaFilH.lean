/- FilesNobody, walked. -/
import Derived.Test.YtljldkknopmfhaaFilG
namespace Go.Proofs.Ytljldkknopmfhaa
open Go.RowKit Go.Maps Go

set_option maxRecDepth 100000 in
theorem create_nil (w : World) : Calls Try.prog 20 #[.pointer none] w fun e w' => e = .returned (.tuple #[.int .i64 0, .int .i64 1]) ∧ Fr No w w' := by
  go_enter Try.func20, Try.ntmps20
  go_wp2
  go_ret2
  exact ⟨rfl, Fr.refl _ _⟩
set_option maxRecDepth 100000 in
theorem read_nil (w : World) : Calls Try.prog 22 #[.pointer none, .int .i64 1, .int .i64 0, .int .i64 1] w fun e w' => e = .returned (.tuple #[.slice none 0 0, .int .i64 1]) ∧ Fr No w w' := by
  go_enter Try.func22, Try.ntmps22
  go_wp2_with (first | (go_at_call 57; refine (at_nil_any _ _).mono ?_; rintro e1 w1 ⟨rfl, hf1⟩))
  go_ret2
  exact ⟨rfl, hf1⟩
set_option maxRecDepth 100000 in
theorem write_nil (v : Value) (w : World) : Calls Try.prog 21 #[.pointer none, .int .i64 1, v] w fun e w' => e = .returned (.int .i64 1) ∧ Fr No w w' := by
  go_enter Try.func21, Try.ntmps21
  go_wp2_with (first | (go_at_call 57; refine (at_nil_any _ _).mono ?_; rintro e1 w1 ⟨rfl, hf1⟩))
  go_ret
  exact ⟨rfl, hf1⟩
set_option maxRecDepth 100000 in
theorem remove_nil (w : World) : Calls Try.prog 23 #[.pointer none, .int .i64 1] w fun e w' => e = .returned (.int .i64 1) ∧ Fr No w w' := by
  go_enter Try.func23, Try.ntmps23
  go_wp2_with (first | (go_at_call 57; refine (at_nil_any _ _).mono ?_; rintro e1 w1 ⟨rfl, hf1⟩))
  go_ret
  exact ⟨rfl, hf1⟩
set_option maxRecDepth 100000 in
theorem raw_nil (w : World) : Calls Try.prog 40 #[.pointer none] w fun e w' => e = .returned (.int .i64 0) ∧ Fr No w w' := by
  go_enter Try.func40, Try.ntmps40
  go_wp2
  go_ret
  exact ⟨rfl, Fr.refl _ _⟩
set_option maxRecDepth 100000 in
theorem calls_nil (w : World) : Calls Try.prog 39 #[.pointer none] w fun e w' => e = .returned (.int .i64 0) ∧ Fr No w w' := by
  go_enter Try.func39, Try.ntmps39
  go_wp2
  go_ret
  exact ⟨rfl, Fr.refl _ _⟩
set_option maxRecDepth 100000 in
theorem live_nil (w : World) : Calls Try.prog 37 #[.pointer none] w fun e w' => e = .returned (.slice none 0 0) ∧ Fr No w w' := by
  go_enter Try.func37, Try.ntmps37
  go_wp2
  go_ret
  exact ⟨rfl, Fr.refl _ _⟩
set_option maxHeartbeats 2000000 in
set_option maxRecDepth 100000 in
theorem walk_filesNobody (w : World) : Calls Try.prog 9 #[] w (TruePost w) := by
  have hcv1 : ∀ (W : World) (g : Nat), g = W.heap.size → (convert 29 29 (.slice (some ⟨g, 0, none⟩) 1 1)).run Try.prog (W.alloc (.cells #[.int .u8 97] 5)) = .ok (.slice (some ⟨g, 0, none⟩) 1 1) (W.alloc (.cells #[.int .u8 97] 5 (1, 2))) := fun W g hg =>
    conv_const 29 5 Try.underlying29 Try.underlying5 W #[.int .u8 97] 1 1 g hg
  go_enter Try.func9, Try.ntmps9
  go_wp2_with (first
    | (go_at_call 20; refine (create_nil _).mono ?_; rintro e1 w1 ⟨rfl, hf1⟩)
    | (go_at_call 22; refine (read_nil _).mono ?_; rintro e2 w2 ⟨rfl, hf2⟩; have hc := hcv1 w2 _ rfl)
    | (go_at_call 21; refine (write_nil _ _).mono ?_; rintro e3 w3 ⟨rfl, hf3⟩)
    | (go_at_call 23; refine (remove_nil _).mono ?_; rintro e4 w4 ⟨rfl, hf4⟩)
    | (go_at_call 40; refine (raw_nil _).mono ?_; rintro e5 w5 ⟨rfl, hf5⟩)
    | (go_at_call 37; refine (live_nil _).mono ?_; rintro e6 w6 ⟨rfl, hf6⟩)
    | (go_at_call 39; refine (calls_nil _).mono ?_; rintro e7 w7 ⟨rfl, hf7⟩)
    | (go_at_call 17; refine (awake_any _).mono ?_; rintro e8 w8 ⟨rfl, hf8⟩))
  go_ret
  exact ⟨rfl, (((((((hf1.trans hf2).alloc _).trans hf3).trans hf4).trans hf5).trans hf6).trans hf7).trans hf8⟩
end Go.Proofs.Ytljldkknopmfhaa
