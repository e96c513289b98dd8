/- Head: the chapter's first example. -/
import Derived.Test.YtppgojcfgdooiaaHeadAB
import Derived.Test.YtppgojcfgdooiaaLinE
namespace Go.Proofs.Ytppgojcfgdooiaa
open Go.RowKit

def TruePost (w : World) (e : Ending) (w' : World) : Prop := e = .returned (.bool true) ∧ Fr No w w'
set_option maxHeartbeats 4000000 in
set_option maxRecDepth 100000 in
theorem awake_any (w : World) : Calls Try.prog 11 #[] w (TruePost w) := by
  have hcv : ∀ (W : World) (g : Nat), g = W.heap.size → (convert 22 22 (.slice (some ⟨g, 0, none⟩) 5 5)).run Try.prog (W.alloc (.cells #[.int .u8 97, .int .u8 10, .int .u8 98, .int .u8 10, .int .u8 99] 5)) = .ok (.slice (some ⟨g, 0, none⟩) 5 5) (W.alloc (.cells #[.int .u8 97, .int .u8 10, .int .u8 98, .int .u8 10, .int .u8 99] 5 (5, 6))) := fun W g hg =>
    conv_const 22 5 Try.underlying22 Try.underlying5 W #[.int .u8 97, .int .u8 10, .int .u8 98, .int .u8 10, .int .u8 99] 5 5 g hg
  have hnew := head_yes 2 none none [] [] 0 0 w (At.nil _ _) (by simp) (by simp) (by decide)
  have HNEW := Lib.hid hnew; clear hnew
  go_enter Try.func11, Try.ntmps11
  go_wp2_with (first
    | (go_at_call 14; refine HNEW.out.mono ?_; rintro e1 w1 ⟨g, rfl, hg, hr, hf1⟩
       have HR := Lib.hid hr; have HF1 := Lib.hid hf1; have hcv1 := hcv w1 _ rfl; clear hr hf1))
  have hfd : foundL headI false 2 [97, 10, 98, 10, 99] true = ([97, 10, 98, 10], -1, 0) := by kernel_rfl
  have hgl := HR.out.base.lt
  have hd := drive_lines (f := headI) (head_ok g) head_each (head_meth g) false 2 (w1.heap.size + 1) 0 1 (some ⟨w1.heap.size, 0, none⟩) 5 [97, 10, 98, 10, 99] true 0 0 0 (some ⟨w1.heap.size + 1 + 1, 0, none⟩) 1 [2]
    (((w1.alloc (.cells #[.int .u8 97, .int .u8 10, .int .u8 98, .int .u8 10, .int .u8 99] 5 (5, 6))).alloc (.cells #[.slice (some ⟨w1.heap.size, 0, none⟩) 5 5, .bool true, .int .i64 0, .int .i64 0, .int .i64 0] 61)).alloc (.cells #[.int .i64 2] 3))
    (HR.out.fr (head_ok g) ((((Fr.refl No w1).alloc _).alloc _).alloc _) (fun _ x => x))
    ((row_at _ #[.slice (some ⟨w1.heap.size, 0, none⟩) 5 5, .bool true, .int .i64 0, .int .i64 0, .int .i64 0] _ rfl (w1.heap.size + 1) (by simp) 61 (0, 0)).fr ((Fr.refl No _).alloc _) (fun _ _ x => x)) (by omega)
    (fun _ => ⟨w1.heap.size, 0, rfl, (row_at w1 #[.int .u8 97, .int .u8 10, .int .u8 98, .int .u8 10, .int .u8 99] _ rfl w1.heap.size rfl 5 (5, 6)).fr (((Fr.refl No _).alloc _).alloc _) (fun _ _ x => x)⟩)
    (fun _ x off e => by injection e with e; injection e with e; omega) (by decide) (by decide)
    (fun _ => ⟨w1.heap.size + 1 + 1, 0, rfl, row_at _ #[.int .i64 2] _ rfl (w1.heap.size + 1 + 1) (by simp) 3 (0, 0)⟩) (fun _ x off e => by injection e with e; injection e with e; omega) (by decide)
  rw [hfd] at hd
  refine hd.mono ?_
  rintro e2 w2 ⟨held, taken, s', rfl, h0, h64, hr2, hf2⟩
  dsimp only [gotC]
  have HF2 := Lib.hid hf2; clear hf2 hr2 hd
  go_wp2
  go_ret
  have hs := HF1.out.size
  refine ⟨rfl, ((((HF1.out.alloc _).alloc _).alloc _).step HF2.out (fun b o hb e => by omega)).alloc _⟩
end Go.Proofs.Ytppgojcfgdooiaa
