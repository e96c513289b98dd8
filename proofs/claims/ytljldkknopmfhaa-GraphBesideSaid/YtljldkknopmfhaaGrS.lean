/- Graphs: a stage's parameters, as the functions of graphs ask for them. -/
import Derived.Test.YtljldkknopmfhaaGrR
import Derived.Test.YtljldkknopmfhaaParE
import Derived.Test.YtljldkknopmfhaaParO
namespace Go.Proofs.Ytljldkknopmfhaa
open Go.RowKit

theorem stg_range (s : Stg) (hn : s.n ≤ 9223372036854775807) (h : s.chk = 0) : 0 ≤ s.ins ∧ s.ins ≤ 4 ∧ 0 ≤ s.outs ∧ s.outs ≤ 4 := by
  obtain ⟨k, n, A, B⟩ := s
  unfold Stg.chk at h
  unfold Stg.ins Stg.outs
  dsimp only at *
  obtain ⟨hk, hrow⟩ := chkR_kind k n A B h
  obtain ⟨hb1, hb2⟩ := rowR_bounds k n A B hrow
  obtain ⟨r1, r2, _⟩ := (row_alike k n A B hn hk).1 hrow
  have hi : insR k n A B = if k = 1 then 0 else if k = 2 then 1 else if k = 12 ∨ k = 13 then n else if k = 14 then 2 else 1 := by unfold insR; rw [if_neg (by simp [h])]
  have ho : outsR k n A B = if k = 1 then 1 else if k = 2 then 0 else if k = 15 ∨ k = 16 then n else 1 := by unfold outsR; rw [if_neg (by simp [h])]
  rw [hi, ho]
  clear hi ho h hrow
  rcases kinds k hk with rfl | rfl | rfl | rfl | rfl | rfl | rfl | rfl | rfl | rfl | rfl | rfl | rfl | rfl | rfl | rfl <;>
    simp [rl, ruleT] at r1 r2 <;> simp <;> omega
def Sp.val (x : Sp) : Value := .agg #[.int .i64 x.s.k, .int .i64 x.s.n, .slice x.aA x.s.A.length x.cA, .slice x.aB x.s.B.length x.cB]
/-- A stage whose bytes are few. -/
def Sp.Few (x : Sp) : Prop := x.s.A.length ≤ 2000 ∧ x.s.B.length ≤ 2000
theorem Sp.Ok.most {w : World} {x : Sp} (h : x.Ok w) : x.s.n ≤ 9223372036854775807 := (i64_bounds h.2.2.2).2
theorem sarity_any (x : Sp) (w : World) (h : x.Ok w) (hf : x.Few) : Calls Try.prog 30 #[.agg #[.int .i64 x.s.k, .int .i64 x.s.n, .slice x.aA x.s.A.length x.cA, .slice x.aB x.s.B.length x.cB]] w (I3Post w x.s.ins x.s.outs x.s.chk) := by
  have h1 := arity_any x.s.k x.s.n x.aA x.aB x.s.A x.s.B x.cA x.cB w h.1 (by have := hf.1; omega) (by have := hf.2; omega)
  obtain ⟨e1, e2, e3, _⟩ := agree x.s.k x.s.n x.s.A x.s.B h.most
  rw [e1, e2, e3] at h1
  exact h1
theorem srarity_any (x : Sp) (w : World) (h : x.Ok w) (hf : x.Few) : Calls Try.prog 31 #[.agg #[.int .i64 x.s.k, .int .i64 x.s.n, .slice x.aA x.s.A.length x.cA, .slice x.aB x.s.B.length x.cB]] w (I3Post w x.s.ins x.s.outs x.s.chk) :=
  rarity_any x.s.k x.s.n x.aA x.aB x.s.A x.s.B x.cA x.cB w h.1 (by have := hf.1; omega) (by have := hf.2; omega)
theorem srcheck_any (x : Sp) (w : World) (h : x.Ok w) (hf : x.Few) : Calls Try.prog 28 #[.agg #[.int .i64 x.s.k, .int .i64 x.s.n, .slice x.aA x.s.A.length x.cA, .slice x.aB x.s.B.length x.cB]] w (IPost w x.s.chk) :=
  rcheck_any x.s.k x.s.n x.aA x.aB x.s.A x.s.B x.cA x.cB w h.1 (by have := hf.1; omega) (by have := hf.2; omega)
end Go.Proofs.Ytljldkknopmfhaa
