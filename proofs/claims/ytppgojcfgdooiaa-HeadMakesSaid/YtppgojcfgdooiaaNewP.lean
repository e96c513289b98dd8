/- The machines' common check of parameters. -/
import Derived.Test.YtppgojcfgdooiaaChkP
import Derived.Test.YtppgojcfgdooiaaSameP
namespace Go.Proofs.Ytppgojcfgdooiaa
open Go.RowKit

/-- May a stage of kind K have these parameters? -/
def fchk (K k n : Int) (A B : List UInt8) : Int := if chkM k n A B ≠ 0 then chkM k n A B else if k ≠ K then 10 else 0
set_option maxRecDepth 100000 in
theorem fcheck_any (K k n : Int) (aA aB : Option Addr) (A B : List UInt8) (cA cB : Nat) (w : World) (hA : At w aA (A.map bv)) (hl : A.length ≤ 100000000) (hl2 : B.length ≤ 100000000) :
    Calls Try.prog 29 #[.agg #[.int .i64 k, .int .i64 n, .slice aA A.length cA, .slice aB B.length cB], .int .i64 K] w (IPost w (fchk K k n A B)) := by
  have hc := fun (W : World) (hW : Fr No w W) => check_any k n aA aB A B cA cB W (at_no hA hW) hl hl2
  unfold fchk
  generalize chkM k n A B = r at *
  have HC := Lib.hid hc; clear hc
  by_cases hr : r = 0
  · subst hr
    by_cases hk : k = K
    · subst hk
      have e0 : (if (0 : Int) ≠ 0 then (0 : Int) else if k ≠ k then 10 else 0) = 0 := by simp
      rw [e0]
      go_enter Try.func29, Try.ntmps29
      go_wp2_with (go_at_call 42; refine (HC.out _ ((Fr.refl No w).alloc _)).mono ?_; rintro e1 w1 ⟨rfl, hfr1⟩; obtain ⟨b1, z1⟩ := box_at hfr1; have b10 := b1 0)
      go_ret
      exact ⟨rfl, ((Fr.refl _ _).alloc _).trans hfr1⟩
    · have hkb : (k != K) = true := by simpa using hk
      have e0 : (if (0 : Int) ≠ 0 then (0 : Int) else if k ≠ K then 10 else 0) = 10 := by simp [hk]
      rw [e0]
      clear hk e0
      go_enter Try.func29, Try.ntmps29
      go_wp2_with (go_at_call 42; refine (HC.out _ ((Fr.refl No w).alloc _)).mono ?_; rintro e1 w1 ⟨rfl, hfr1⟩; obtain ⟨b1, z1⟩ := box_at hfr1; have b10 := b1 0)
      go_ret
      exact ⟨rfl, ((Fr.refl _ _).alloc _).trans hfr1⟩
  · have hrb : (r != 0) = true := by simpa using hr
    rw [if_pos hr]
    clear hr
    go_enter Try.func29, Try.ntmps29
    go_wp2_with (go_at_call 42; refine (HC.out _ ((Fr.refl No w).alloc _)).mono ?_; rintro e1 w1 ⟨rfl, hfr1⟩)
    go_ret
    exact ⟨rfl, ((Fr.refl _ _).alloc _).trans hfr1⟩
end Go.Proofs.Ytppgojcfgdooiaa
