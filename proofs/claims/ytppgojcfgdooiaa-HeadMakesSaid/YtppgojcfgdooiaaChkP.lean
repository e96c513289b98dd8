/- The program's Check. -/
import Derived.Test.YtppgojcfgdooiaaParD
import Derived.Test.YtppgojcfgdooiaaParU
namespace Go.Proofs.Ytppgojcfgdooiaa
open Go.RowKit

set_option maxRecDepth 100000 in
theorem check_any (k n : Int) (aA aB : Option Addr) (A B : List UInt8) (cA cB : Nat) (w : World) (hA : At w aA (A.map bv)) (hl : A.length ≤ 100000000) (hl2 : B.length ≤ 100000000) :
    Calls Try.prog 42 #[.agg #[.int .i64 k, .int .i64 n, .slice aA A.length cA, .slice aB B.length cB]] w (IPost w (chkM k n A B)) := by
  have hof := fun W hW => of_any k n aA aB A B cA cB W hW hl hl2
  unfold chkM
  generalize ofM k n A B = R at *
  obtain ⟨⟨l, m, a, ins, outs, h, e⟩, er⟩ := R
  have HO := Lib.hid hof; clear hof
  have HA := Lib.hid hA; clear hA
  go_enter Try.func42, Try.ntmps42
  go_wp2_with (go_at_call 44; refine (HO.out _ (HA.out.fr ((Fr.refl No w).alloc _) (fun _ _ _ _ _ _ x => x))).mono ?_; rintro e1 w1 ⟨rfl, hfr1⟩; dsimp only [Rl.cells])
  go_ret
  exact ⟨rfl, (((Fr.refl _ _).alloc _).trans hfr1).alloc _⟩

end Go.Proofs.Ytppgojcfgdooiaa
