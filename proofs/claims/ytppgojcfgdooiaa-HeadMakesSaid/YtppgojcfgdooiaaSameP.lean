/- Whether two parameters are the same, as the document has it. -/
import Derived.Test.YtppgojcfgdooiaaParU
import Derived.Test.YtppgojcfgdooiaaBytes
import Derived.Test.YtppgojcfgdooiaaMach
namespace Go.Proofs.Ytppgojcfgdooiaa
open Go.RowKit

def sameB (k n k' n' : Int) (A B A' B' : List UInt8) : Bool := decide (k = k' ∧ n = n' ∧ A = A' ∧ B = B')
set_option maxHeartbeats 1000000 in
set_option maxRecDepth 100000 in
theorem rsame_any (k n k' n' : Int) (aA aB aA' aB' : Option Addr) (A B A' B' : List UInt8) (cA cB cA' cB' : Nat) (w : World)
    (hA : At w aA (A.map bv)) (hB : At w aB (B.map bv)) (hA' : At w aA' (A'.map bv)) (hB' : At w aB' (B'.map bv)) (hl : A.length ≤ 100000000) (hl2 : B.length ≤ 100000000) (hl' : A'.length ≤ 100000000) (hl2' : B'.length ≤ 100000000) :
    Calls Try.prog 15 #[.agg #[.int .i64 k, .int .i64 n, .slice aA A.length cA, .slice aB B.length cB], .agg #[.int .i64 k', .int .i64 n', .slice aA' A'.length cA', .slice aB' B'.length cB']] w (RPost w (sameB k n k' n' A B A' B')) := by
  have hcv : ∀ (W : World) (a : Option Addr) (c : Nat) (l : List UInt8), At W a (l.map bv) → (convert 22 9 (.slice a l.length c)).run Try.prog W = .ok (.string ⟨l.toArray⟩) W := fun W a c l h => conv_at h Try.underlying22 Try.underlying5 Try.underlying9
  have HA := Lib.hid hA; have HB := Lib.hid hB; have HA' := Lib.hid hA'; have HB' := Lib.hid hB'
  clear hA hB hA' hB'
  by_cases h1 : k = k'
  · subst h1
    by_cases h2 : n = n'
    · subst h2
      have cv1 := hcv ((w.alloc (.cells #[.int .i64 k, .int .i64 n, .slice aA A.length cA, .slice aB B.length cB] 24)).alloc (.cells #[.int .i64 k, .int .i64 n, .slice aA' A'.length cA', .slice aB' B'.length cB'] 24)) aA cA A (at_no HA.out (((Fr.refl No w).alloc _).alloc _))
      have cv2 := hcv ((w.alloc (.cells #[.int .i64 k, .int .i64 n, .slice aA A.length cA, .slice aB B.length cB] 24)).alloc (.cells #[.int .i64 k, .int .i64 n, .slice aA' A'.length cA', .slice aB' B'.length cB'] 24)) aB cB B (at_no HB.out (((Fr.refl No w).alloc _).alloc _))
      have cv3 := hcv ((w.alloc (.cells #[.int .i64 k, .int .i64 n, .slice aA A.length cA, .slice aB B.length cB] 24)).alloc (.cells #[.int .i64 k, .int .i64 n, .slice aA' A'.length cA', .slice aB' B'.length cB'] 24)) aA' cA' A' (at_no HA'.out (((Fr.refl No w).alloc _).alloc _))
      have cv4 := hcv ((w.alloc (.cells #[.int .i64 k, .int .i64 n, .slice aA A.length cA, .slice aB B.length cB] 24)).alloc (.cells #[.int .i64 k, .int .i64 n, .slice aA' A'.length cA', .slice aB' B'.length cB'] 24)) aB' cB' B' (at_no HB'.out (((Fr.refl No w).alloc _).alloc _))
      clear hcv
      by_cases h3 : A = A'
      · have e3 : (A == A') = true := by simpa using h3
        by_cases h4 : B = B'
        · have e4 : (B == B') = true := by simpa using h4
          have e0 : sameB k n k n A B A' B' = true := by simp [sameB, h3, h4]
          rw [e0]; clear e0 h3 h4
          go_enter Try.func15, Try.ntmps15
          go_wp2
          go_ret
          exact ⟨rfl, ((Fr.refl _ _).alloc _).alloc _⟩
        · have e4 : (B == B') = false := by simpa using h4
          have e0 : sameB k n k n A B A' B' = false := by simp [sameB, h4]
          rw [e0]; clear e0 h3 h4
          go_enter Try.func15, Try.ntmps15
          go_wp2
          go_ret
          exact ⟨rfl, ((Fr.refl _ _).alloc _).alloc _⟩
      · have e3 : (A == A') = false := by simpa using h3
        have e0 : sameB k n k n A B A' B' = false := by simp [sameB, h3]
        rw [e0]; clear e0 h3
        go_enter Try.func15, Try.ntmps15
        go_wp2
        go_ret
        exact ⟨rfl, ((Fr.refl _ _).alloc _).alloc _⟩
    · have h2b : (n == n') = false := by simpa using h2
      have e0 : sameB k n k n' A B A' B' = false := by simp [sameB, h2]
      rw [e0]; clear e0 h2 hcv
      go_enter Try.func15, Try.ntmps15
      go_wp2
      go_ret
      exact ⟨rfl, ((Fr.refl _ _).alloc _).alloc _⟩
  · have h1b : (k == k') = false := by simpa using h1
    have e0 : sameB k n k' n' A B A' B' = false := by simp [sameB, h1]
    rw [e0]; clear e0 h1 hcv
    go_enter Try.func15, Try.ntmps15
    go_wp2
    go_ret
    exact ⟨rfl, ((Fr.refl _ _).alloc _).alloc _⟩
end Go.Proofs.Ytppgojcfgdooiaa
