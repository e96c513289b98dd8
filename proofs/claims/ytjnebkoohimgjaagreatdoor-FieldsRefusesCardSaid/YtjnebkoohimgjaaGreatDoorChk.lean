/- The program's Check. -/
import Derived.Test.YtjnebkoohimgjaaGreatDoorParD
import Derived.Test.YtjnebkoohimgjaaGreatDoorParV
import Derived.Test.YtjnebkoohimgjaaGreatDoorBytes
import Derived.Test.YtjnebkoohimgjaaGreatDoorMach
namespace Go.Proofs.YtjnebkoohimgjaaGreatDoor
open Go.RowKit

set_option maxRecDepth 100000 in
theorem check_any (k n : Int) (aA aB : Option Addr) (A B : List UInt8) (cA cB : Nat) (w : World) (hA : At w aA (A.map bv)) (hl : A.length ≤ 100000000) (hl2 : B.length ≤ 100000000) :
    Calls Tryz.prog 22 #[.agg #[.int .i64 k, .int .i64 n, .slice aA A.length cA, .slice aB B.length cB]] w (IPost w (chkM k n A B)) := by
  have hof := fun W hW => of_any k n aA aB A B cA cB W hW hl hl2
  unfold chkM
  generalize ofM k n A B = R at *
  obtain ⟨⟨l, m, a, ins, outs, h, e⟩, er⟩ := R
  have HO := Lib.hid hof; clear hof
  have HA := Lib.hid hA; clear hA
  go_enter Tryz.func22, Tryz.ntmps22
  go_wp2_with (go_at_call 29; refine (HO.out _ (HA.out.fr ((Fr.refl No w).alloc _) (fun _ _ _ _ _ _ x => x))).mono ?_; rintro e1 w1 ⟨rfl, hfr1⟩; dsimp only [Rl.cells])
  go_ret
  exact ⟨rfl, (((Fr.refl _ _).alloc _).trans hfr1).alloc _⟩

end Go.Proofs.YtjnebkoohimgjaaGreatDoor

/- Whether two parameters are the same, as the document has it. -/
namespace Go.Proofs.YtjnebkoohimgjaaGreatDoor
open Go.RowKit

def sameB (k n k' n' : Int) (A B A' B' : List UInt8) : Bool := decide (k = k' ∧ n = n' ∧ A = A' ∧ B = B')

end Go.Proofs.YtjnebkoohimgjaaGreatDoor

/- The machines' common check of parameters. -/
namespace Go.Proofs.YtjnebkoohimgjaaGreatDoor
open Go.RowKit

/-- May a stage of kind K have these parameters? -/
def fchk (K k n : Int) (A B : List UInt8) : Int := if chkM k n A B ≠ 0 then chkM k n A B else if k ≠ K then 10 else 0
set_option maxRecDepth 100000 in
theorem fcheck_any (K k n : Int) (aA aB : Option Addr) (A B : List UInt8) (cA cB : Nat) (w : World) (hA : At w aA (A.map bv)) (hl : A.length ≤ 100000000) (hl2 : B.length ≤ 100000000) :
    Calls Tryz.prog 13 #[.agg #[.int .i64 k, .int .i64 n, .slice aA A.length cA, .slice aB B.length cB], .int .i64 K] w (IPost w (fchk K k n A B)) := by
  have hc := fun (W : World) (hW : Fr No w W) => check_any k n aA aB A B cA cB W (at_no hA hW) hl hl2
  unfold fchk
  generalize chkM k n A B = r at *
  have HC := Lib.hid hc; clear hc
  by_cases hr : r = 0
  · subst hr
    by_cases hk : k = K
    · subst hk
      have e0 : (if (0 : Int) ≠ 0 then (0 : Int) else if k ≠ k then 10 else 0) = 0 := by simp
      rw [e0]
      go_enter Tryz.func13, Tryz.ntmps13
      go_wp2_with (go_at_call 22; refine (HC.out _ ((Fr.refl No w).alloc _)).mono ?_; rintro e1 w1 ⟨rfl, hfr1⟩; obtain ⟨b1, z1⟩ := box_at hfr1; have b10 := b1 0)
      go_ret
      exact ⟨rfl, ((Fr.refl _ _).alloc _).trans hfr1⟩
    · have hkb : (k != K) = true := by simpa using hk
      have e0 : (if (0 : Int) ≠ 0 then (0 : Int) else if k ≠ K then 10 else 0) = 10 := by simp [hk]
      rw [e0]
      clear hk e0
      go_enter Tryz.func13, Tryz.ntmps13
      go_wp2_with (go_at_call 22; refine (HC.out _ ((Fr.refl No w).alloc _)).mono ?_; rintro e1 w1 ⟨rfl, hfr1⟩; obtain ⟨b1, z1⟩ := box_at hfr1; have b10 := b1 0)
      go_ret
      exact ⟨rfl, ((Fr.refl _ _).alloc _).trans hfr1⟩
  · have hrb : (r != 0) = true := by simpa using hr
    rw [if_pos hr]
    clear hr
    go_enter Tryz.func13, Tryz.ntmps13
    go_wp2_with (go_at_call 22; refine (HC.out _ ((Fr.refl No w).alloc _)).mono ?_; rintro e1 w1 ⟨rfl, hfr1⟩)
    go_ret
    exact ⟨rfl, ((Fr.refl _ _).alloc _).trans hfr1⟩
end Go.Proofs.YtjnebkoohimgjaaGreatDoor
