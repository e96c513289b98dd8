/- Tail: with more of its input. Plain. -/
import Derived.Test.YtcplbhjpefmliaaTlIf
import Derived.Test.YtcplbhjpefmliaaGrow
namespace Go.Proofs.Ytcplbhjpefmliaa
theorem growsM (n : Int) (A B : List UInt8) (_h : chkR 4 n A B = 0) (b c : List UInt8) (e : Bool) :
    (∃ s, (saysM n A B (b ++ c) e).1 = (saysM n A B b false).1 ++ s) ∧ ((saysM n A B b false).2.1 = -1 → saysM n A B (b ++ c) e = saysM n A B b false) :=
  says_grow (bmT n.toNat) ([], []) b c e
theorem grown_says {n : Int} {A B : List UInt8} (h : chkR 4 n A B = 0) {b b' : List UInt8} {ended e' : Bool} (hG : Grown b ended b' e') :
    (∃ s, (saysM n A B b' e').1 = (saysM n A B b ended).1 ++ s) ∧ ((saysM n A B b ended).2.1 = -1 → saysM n A B b' e' = saysM n A B b ended) := by
  rcases hG with ⟨rfl, rfl⟩ | ⟨rfl, t, rfl⟩
  · exact ⟨⟨[], by simp⟩, fun _ => rfl⟩
  · exact growsM n A B h b t e'
end Go.Proofs.Ytcplbhjpefmliaa
