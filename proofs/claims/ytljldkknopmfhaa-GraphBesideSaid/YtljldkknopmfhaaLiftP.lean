/- Parameters as arguments of a law. -/
import Derived.Test.YtljldkknopmfhaaLift
import Derived.Test.YtljldkknopmfhaaRows
import Derived.Lib.SmallJoins
namespace Go.Proofs.Ytljldkknopmfhaa
open Go.ChangeShapes Go.WideShapes Go.ChangeAt Go.RowKit Go.Joins

/-- A value that reads as parameters. -/
def IsPar (w : World) (v : Value) (k n : Int) (A B : List UInt8) : Prop :=
  ∃ aA cA aB cB, v = .agg #[.int .i64 k, .int .i64 n, .slice aA A.length cA, .slice aB B.length cB] ∧ (-9223372036854775808 ≤ k ∧ k ≤ 9223372036854775807) ∧ (-9223372036854775808 ≤ n ∧ n ≤ 9223372036854775807) ∧
    At w aA (A.map bv) ∧ At w aB (B.map bv) ∧ A.length ≤ cA ∧ B.length ≤ cB ∧ cA ≤ maxLen ∧ cB ≤ maxLen
theorem i64_bounds {n : Int} (h : (Lit.int .i64 n).wf = true) : -9223372036854775808 ≤ n ∧ n ≤ 9223372036854775807 := by
  simp [Lit.wf, IntKind.min, IntKind.max, IntKind.signed, IntKind.bits] at h
  omega
set_option maxRecDepth 100000 in
theorem isPar_of_trod {H : Type} {enc : TypeId × Value → H} {w : World} {base : Nat} {spare : Nat → Bool} {held : Bool} {r : Reach} {b0 : Nat} {v : Value} {d : DataW H} {p : List MemPlace}
    (hv : Value.okWide Try.prog w r b0 41 v) (h : DataW.Trod enc Try.prog w base spare held 41 v d p) : ∃ k n A B, IsPar w v k n A B := by
  obtain ⟨v0, v1, v2, v3, y0, y1, y2, y3, m, rfl, _, _, h0, h1, h2, h3⟩ := open_agg4 Try.underlying41 (by kernel_rfl) (by kernel_rfl) hv h
  obtain ⟨k, e0, _, w0⟩ := DataW.trod_int (k := .i64) (by kernel_rfl) h0
  obtain ⟨n, e1, _, w1⟩ := DataW.trod_int (k := .i64) (by kernel_rfl) h1
  simp at e0 e1
  subst e0; subst e1
  obtain ⟨A, aA, cA, rfl, a1, a2, a3, _⟩ := isB_of_trod (t := 29) (e := 5) Try.underlying29 Try.underlying5 (by kernel_rfl) h2
  obtain ⟨B, aB, cB, rfl, b1, b2, b3, _⟩ := isB_of_trod (t := 29) (e := 5) Try.underlying29 Try.underlying5 (by kernel_rfl) h3
  exact ⟨k, n, A, B, aA, cA, aB, cB, rfl, i64_bounds w0, i64_bounds w1, a3, b3, a1, b1, a2, b2⟩
end Go.Proofs.Ytljldkknopmfhaa
