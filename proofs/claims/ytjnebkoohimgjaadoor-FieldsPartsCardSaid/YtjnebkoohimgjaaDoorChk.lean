/- The program's Check. -/
import Derived.Test.YtjnebkoohimgjaaDoorParD
import Derived.Test.YtjnebkoohimgjaaDoorParV
import Derived.Test.YtjnebkoohimgjaaDoorBytes
import Derived.Test.YtjnebkoohimgjaaDoorMach
namespace Go.Proofs.YtjnebkoohimgjaaDoor
open Go.RowKit

set_option maxRecDepth 100000 in
theorem check_any (k n : Int) (aA aB : Option Addr) (A B : List UInt8) (cA cB : Nat) (w : World) (hA : At w aA (A.map bv)) (hl : A.length ≤ 100000000) (hl2 : B.length ≤ 100000000) :
    Calls Tryd.prog 35 #[.agg #[.int .i64 k, .int .i64 n, .slice aA A.length cA, .slice aB B.length cB]] w (IPost w (chkM k n A B)) := by
  have hof := fun W hW => of_any k n aA aB A B cA cB W hW hl hl2
  unfold chkM
  generalize ofM k n A B = R at *
  obtain ⟨⟨l, m, a, ins, outs, h, e⟩, er⟩ := R
  have HO := Lib.hid hof; clear hof
  have HA := Lib.hid hA; clear hA
  go_enter Tryd.func35, Tryd.ntmps35
  go_wp2_with (go_at_call 44; refine (HO.out _ (HA.out.fr ((Fr.refl No w).alloc _) (fun _ _ _ _ _ _ x => x))).mono ?_; rintro e1 w1 ⟨rfl, hfr1⟩; dsimp only [Rl.cells])
  go_ret
  exact ⟨rfl, (((Fr.refl _ _).alloc _).trans hfr1).alloc _⟩

end Go.Proofs.YtjnebkoohimgjaaDoor

/- Whether two parameters are the same, as the document has it. -/
namespace Go.Proofs.YtjnebkoohimgjaaDoor
open Go.RowKit

def sameB (k n k' n' : Int) (A B A' B' : List UInt8) : Bool := decide (k = k' ∧ n = n' ∧ A = A' ∧ B = B')
set_option maxHeartbeats 1000000 in
set_option maxRecDepth 100000 in
theorem rsame_any (k n k' n' : Int) (aA aB aA' aB' : Option Addr) (A B A' B' : List UInt8) (cA cB cA' cB' : Nat) (w : World)
    (hA : At w aA (A.map bv)) (hB : At w aB (B.map bv)) (hA' : At w aA' (A'.map bv)) (hB' : At w aB' (B'.map bv)) (_hl : A.length ≤ 100000000) (_hl2 : B.length ≤ 100000000) (_hl' : A'.length ≤ 100000000) (_hl2' : B'.length ≤ 100000000) :
    Calls Tryd.prog 21 #[.agg #[.int .i64 k, .int .i64 n, .slice aA A.length cA, .slice aB B.length cB], .agg #[.int .i64 k', .int .i64 n', .slice aA' A'.length cA', .slice aB' B'.length cB']] w (RPost w (sameB k n k' n' A B A' B')) := by
  have hcv : ∀ (W : World) (a : Option Addr) (c : Nat) (l : List UInt8), At W a (l.map bv) → (convert 22 9 (.slice a l.length c)).run Tryd.prog W = .ok (.string ⟨l.toArray⟩) W := fun W a c l h => conv_at h Tryd.underlying22 Tryd.underlying5 Tryd.underlying9
  have HA := Lib.hid hA; have HB := Lib.hid hB; have HA' := Lib.hid hA'; have HB' := Lib.hid hB'
  clear hA hB hA' hB'
  by_cases h1 : k = k'
  · subst h1
    by_cases h2 : n = n'
    · subst h2
      have cv1 := hcv ((w.alloc (.cells #[.int .i64 k, .int .i64 n, .slice aA A.length cA, .slice aB B.length cB] 24)).alloc (.cells #[.int .i64 k, .int .i64 n, .slice aA' A'.length cA', .slice aB' B'.length cB'] 24)) aA cA A (at_no HA.out (((Fr.refl No w).alloc _).alloc _))
      have cv2 := hcv ((w.alloc (.cells #[.int .i64 k, .int .i64 n, .slice aA A.length cA, .slice aB B.length cB] 24)).alloc (.cells #[.int .i64 k, .int .i64 n, .slice aA' A'.length cA', .slice aB' B'.length cB'] 24)) aB cB B (at_no HB.out (((Fr.refl No w).alloc _).alloc _))
      have cv3 := hcv ((w.alloc (.cells #[.int .i64 k, .int .i64 n, .slice aA A.length cA, .slice aB B.length cB] 24)).alloc (.cells #[.int .i64 k, .int .i64 n, .slice aA' A'.length cA', .slice aB' B'.length cB'] 24)) aA' cA' A' (at_no HA'.out (((Fr.refl No w).alloc _).alloc _))
      have cv4 := hcv ((w.alloc (.cells #[.int .i64 k, .int .i64 n, .slice aA A.length cA, .slice aB B.length cB] 24)).alloc (.cells #[.int .i64 k, .int .i64 n, .slice aA' A'.length cA', .slice aB' B'.length cB'] 24)) aB' cB' B' (at_no HB'.out (((Fr.refl No w).alloc _).alloc _))
      clear hcv
      by_cases h3 : A = A'
      · have e3 : (A == A') = true := by simpa using h3
        by_cases h4 : B = B'
        · have e4 : (B == B') = true := by simpa using h4
          have e0 : sameB k n k n A B A' B' = true := by simp [sameB, h3, h4]
          rw [e0]; clear e0 h3 h4
          go_enter Tryd.func21, Tryd.ntmps21
          go_wp2
          go_ret
          exact ⟨rfl, ((Fr.refl _ _).alloc _).alloc _⟩
        · have e4 : (B == B') = false := by simpa using h4
          have e0 : sameB k n k n A B A' B' = false := by simp [sameB, h4]
          rw [e0]; clear e0 h3 h4
          go_enter Tryd.func21, Tryd.ntmps21
          go_wp2
          go_ret
          exact ⟨rfl, ((Fr.refl _ _).alloc _).alloc _⟩
      · have e3 : (A == A') = false := by simpa using h3
        have e0 : sameB k n k n A B A' B' = false := by simp [sameB, h3]
        rw [e0]; clear e0 h3
        go_enter Tryd.func21, Tryd.ntmps21
        go_wp2
        go_ret
        exact ⟨rfl, ((Fr.refl _ _).alloc _).alloc _⟩
    · have h2b : (n == n') = false := by simpa using h2
      have e0 : sameB k n k n' A B A' B' = false := by simp [sameB, h2]
      rw [e0]; clear e0 h2 hcv
      go_enter Tryd.func21, Tryd.ntmps21
      go_wp2
      go_ret
      exact ⟨rfl, ((Fr.refl _ _).alloc _).alloc _⟩
  · have h1b : (k == k') = false := by simpa using h1
    have e0 : sameB k n k' n' A B A' B' = false := by simp [sameB, h1]
    rw [e0]; clear e0 h1 hcv
    go_enter Tryd.func21, Tryd.ntmps21
    go_wp2
    go_ret
    exact ⟨rfl, ((Fr.refl _ _).alloc _).alloc _⟩
end Go.Proofs.YtjnebkoohimgjaaDoor

/- The machines' common check of parameters. -/
namespace Go.Proofs.YtjnebkoohimgjaaDoor
open Go.RowKit

/-- May a stage of kind K have these parameters? -/
def fchk (K k n : Int) (A B : List UInt8) : Int := if chkM k n A B ≠ 0 then chkM k n A B else if k ≠ K then 10 else 0
set_option maxRecDepth 100000 in
theorem fcheck_any (K k n : Int) (aA aB : Option Addr) (A B : List UInt8) (cA cB : Nat) (w : World) (hA : At w aA (A.map bv)) (hl : A.length ≤ 100000000) (hl2 : B.length ≤ 100000000) :
    Calls Tryd.prog 26 #[.agg #[.int .i64 k, .int .i64 n, .slice aA A.length cA, .slice aB B.length cB], .int .i64 K] w (IPost w (fchk K k n A B)) := by
  have hc := fun (W : World) (hW : Fr No w W) => check_any k n aA aB A B cA cB W (at_no hA hW) hl hl2
  unfold fchk
  generalize chkM k n A B = r at *
  have HC := Lib.hid hc; clear hc
  by_cases hr : r = 0
  · subst hr
    by_cases hk : k = K
    · subst hk
      have e0 : (if (0 : Int) ≠ 0 then (0 : Int) else if k ≠ k then 10 else 0) = 0 := by simp
      rw [e0]
      go_enter Tryd.func26, Tryd.ntmps26
      go_wp2_with (go_at_call 35; refine (HC.out _ ((Fr.refl No w).alloc _)).mono ?_; rintro e1 w1 ⟨rfl, hfr1⟩; obtain ⟨b1, z1⟩ := box_at hfr1; have b10 := b1 0)
      go_ret
      exact ⟨rfl, ((Fr.refl _ _).alloc _).trans hfr1⟩
    · have hkb : (k != K) = true := by simpa using hk
      have e0 : (if (0 : Int) ≠ 0 then (0 : Int) else if k ≠ K then 10 else 0) = 10 := by simp [hk]
      rw [e0]
      clear hk e0
      go_enter Tryd.func26, Tryd.ntmps26
      go_wp2_with (go_at_call 35; refine (HC.out _ ((Fr.refl No w).alloc _)).mono ?_; rintro e1 w1 ⟨rfl, hfr1⟩; obtain ⟨b1, z1⟩ := box_at hfr1; have b10 := b1 0)
      go_ret
      exact ⟨rfl, ((Fr.refl _ _).alloc _).trans hfr1⟩
  · have hrb : (r != 0) = true := by simpa using hr
    rw [if_pos hr]
    clear hr
    go_enter Tryd.func26, Tryd.ntmps26
    go_wp2_with (go_at_call 35; refine (HC.out _ ((Fr.refl No w).alloc _)).mono ?_; rintro e1 w1 ⟨rfl, hfr1⟩)
    go_ret
    exact ⟨rfl, ((Fr.refl _ _).alloc _).trans hfr1⟩
end Go.Proofs.YtjnebkoohimgjaaDoor
