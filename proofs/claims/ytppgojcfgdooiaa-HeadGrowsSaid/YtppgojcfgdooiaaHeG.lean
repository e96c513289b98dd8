/- Head: with more of its input. Plain. -/
import Derived.Test.YtppgojcfgdooiaaHeIf
import Derived.Test.YtppgojcfgdooiaaGrow
namespace Go.Proofs.Ytppgojcfgdooiaa
theorem growsM (n : Int) (A B : List UInt8) (h : chkR 3 n A B = 0) (b c : List UInt8) (e : Bool) :
    (∃ s, (saysM n A B (b ++ c) e).1 = (saysM n A B b false).1 ++ s) ∧ ((saysM n A B b false).2.1 = -1 → saysM n A B (b ++ c) e = saysM n A B b false) := by
  obtain ⟨h0, h1, _⟩ := headBounds n A B h
  unfold saysM
  rw [← found_head n _ _ h0 h1, ← found_head n _ _ h0 h1]
  unfold foundL
  by_cases hn : n = 0
  · subst hn; simp
  · rw [if_neg (by simpa using hn), if_neg (by simpa using hn)]
    exact says_grow (bmL headI) ([], n) b c e
theorem grown_says {n : Int} {A B : List UInt8} (h : chkR 3 n A B = 0) {b b' : List UInt8} {ended e' : Bool} (hG : Grown b ended b' e') :
    (∃ s, (saysM n A B b' e').1 = (saysM n A B b ended).1 ++ s) ∧ ((saysM n A B b ended).2.1 = -1 → saysM n A B b' e' = saysM n A B b ended) := by
  rcases hG with ⟨rfl, rfl⟩ | ⟨rfl, t, rfl⟩
  · exact ⟨⟨[], by simp⟩, fun _ => rfl⟩
  · exact growsM n A B h b t e'
end Go.Proofs.Ytppgojcfgdooiaa
