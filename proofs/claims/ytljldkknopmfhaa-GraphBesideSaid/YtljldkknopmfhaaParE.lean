/- The program's Check, Arity, Bound. -/
import Derived.Test.YtljldkknopmfhaaParD
import Derived.Test.YtljldkknopmfhaaParV
namespace Go.Proofs.Ytljldkknopmfhaa
open Go.RowKit

set_option maxRecDepth 100000 in
theorem check_any (k n : Int) (aA aB : Option Addr) (A B : List UInt8) (cA cB : Nat) (w : World) (hA : At w aA (A.map bv)) (hl : A.length ≤ 100000000) (hl2 : B.length ≤ 100000000) :
    Calls Try.prog 27 #[.agg #[.int .i64 k, .int .i64 n, .slice aA A.length cA, .slice aB B.length cB]] w (IPost w (chkM k n A B)) := by
  have hof := fun W hW => of_any k n aA aB A B cA cB W hW hl hl2
  unfold chkM
  generalize ofM k n A B = R at *
  obtain ⟨⟨l, m, a, ins, outs, h, e⟩, er⟩ := R
  have HO := Lib.hid hof; clear hof
  have HA := Lib.hid hA; clear hA
  go_enter Try.func27, Try.ntmps27
  go_wp2_with (go_at_call 59; refine (HO.out _ (HA.out.fr ((Fr.refl No w).alloc _) (fun _ _ _ _ _ _ x => x))).mono ?_; rintro e1 w1 ⟨rfl, hfr1⟩; dsimp only [Rl.cells])
  go_ret
  exact ⟨rfl, (((Fr.refl _ _).alloc _).trans hfr1).alloc _⟩

set_option maxHeartbeats 1000000 in
set_option maxRecDepth 100000 in
theorem arity_any (k n : Int) (aA aB : Option Addr) (A B : List UInt8) (cA cB : Nat) (w : World) (hA : At w aA (A.map bv)) (hl : A.length ≤ 100000000) (hl2 : B.length ≤ 100000000) :
    Calls Try.prog 30 #[.agg #[.int .i64 k, .int .i64 n, .slice aA A.length cA, .slice aB B.length cB]] w (I3Post w (insM k n A B) (outsM k n A B) (chkM k n A B)) := by
  have hof := fun W hW => of_any k n aA aB A B cA cB W hW hl hl2
  unfold chkM insM outsM
  generalize ofM k n A B = R at *
  obtain ⟨⟨l, m, a, ins, outs, h, e⟩, er⟩ := R
  have HO := Lib.hid hof; clear hof
  have HA := Lib.hid hA; clear hA
  dsimp only
  by_cases h1 : ins = -1
  · by_cases h2 : outs = -1
    · rw [if_pos h1, if_pos h2]
      subst h1; subst h2
      go_enter Try.func30, Try.ntmps30
      go_wp2_with (go_at_call 59; refine (HO.out _ (HA.out.fr ((Fr.refl No w).alloc _) (fun _ _ _ _ _ _ x => x))).mono ?_; rintro e1 w1 ⟨rfl, hfr1⟩; dsimp only [Rl.cells]; have hp1 := (fun o => hfr1.at.1 w.heap.size o (by simp)); have hz1 : w.heap.size < w1.heap.size := (by have := hfr1.size; simp at this; omega))
      go_quiet (fail)
      go_wp2
      go_ret3
      exact ⟨rfl, ((((Fr.refl _ _).alloc _).trans hfr1).alloc _).drewN nq⟩
    · have h2b : (outs == -1) = false := by simpa using h2
      rw [if_pos h1, if_neg h2]
      subst h1
      clear h2
      go_enter Try.func30, Try.ntmps30
      go_wp2_with (go_at_call 59; refine (HO.out _ (HA.out.fr ((Fr.refl No w).alloc _) (fun _ _ _ _ _ _ x => x))).mono ?_; rintro e1 w1 ⟨rfl, hfr1⟩; dsimp only [Rl.cells]; have hp1 := (fun o => hfr1.at.1 w.heap.size o (by simp)); have hz1 : w.heap.size < w1.heap.size := (by have := hfr1.size; simp at this; omega))
      go_quiet (fail)
      go_wp2
      go_ret3
      exact ⟨rfl, ((((Fr.refl _ _).alloc _).trans hfr1).alloc _).drewN nq⟩
  · have h1b : (ins == -1) = false := by simpa using h1
    by_cases h2 : outs = -1
    · rw [if_neg h1, if_pos h2]
      subst h2
      clear h1
      go_enter Try.func30, Try.ntmps30
      go_wp2_with (go_at_call 59; refine (HO.out _ (HA.out.fr ((Fr.refl No w).alloc _) (fun _ _ _ _ _ _ x => x))).mono ?_; rintro e1 w1 ⟨rfl, hfr1⟩; dsimp only [Rl.cells]; have hp1 := (fun o => hfr1.at.1 w.heap.size o (by simp)); have hz1 : w.heap.size < w1.heap.size := (by have := hfr1.size; simp at this; omega))
      go_quiet (fail)
      go_wp2
      go_ret3
      exact ⟨rfl, ((((Fr.refl _ _).alloc _).trans hfr1).alloc _).drewN nq⟩
    · have h2b : (outs == -1) = false := by simpa using h2
      rw [if_neg h1, if_neg h2]
      clear h1 h2
      go_enter Try.func30, Try.ntmps30
      go_wp2_with (go_at_call 59; refine (HO.out _ (HA.out.fr ((Fr.refl No w).alloc _) (fun _ _ _ _ _ _ x => x))).mono ?_; rintro e1 w1 ⟨rfl, hfr1⟩; dsimp only [Rl.cells]; have hp1 := (fun o => hfr1.at.1 w.heap.size o (by simp)); have hz1 : w.heap.size < w1.heap.size := (by have := hfr1.size; simp at this; omega))
      go_quiet (fail)
      go_wp2
      go_ret3
      exact ⟨rfl, ((((Fr.refl _ _).alloc _).trans hfr1).alloc _).drewN nq⟩

set_option maxRecDepth 100000 in
theorem bound_any (k n : Int) (aA aB : Option Addr) (A B : List UInt8) (cA cB : Nat) (w : World) (hn : n ≤ 9223372036854775807) (hA : At w aA (A.map bv)) (hl : A.length ≤ 100000000) (hl2 : B.length ≤ 100000000) :
    Calls Try.prog 32 #[.agg #[.int .i64 k, .int .i64 n, .slice aA A.length cA, .slice aB B.length cB]] w (I2Post w (bndM k n A B) (chkM k n A B)) := by
  have hof := fun W hW => of_any k n aA aB A B cA cB W hW hl hl2
  obtain ⟨e1, e2, _⟩ := of_alike k n A B hn
  have e4 : bndM k n A B = if (ofM k n A B).2 = 0 then (ofM k n A B).1.holds + (ofM k n A B).1.each * n else 0 := rfl
  by_cases h0 : chkR k n A B = 0
  · obtain ⟨r1, r2, r3⟩ := e2 h0
    have hb1 : 0 ≤ (ofM k n A B).1.holds ∧ 0 ≤ (ofM k n A B).1.each * n ∧ (ofM k n A B).1.holds + (ofM k n A B).1.each * n ≤ 2048 := by
      rw [r1]
      obtain ⟨hk, hrow⟩ := chkR_kind k n A B h0
      obtain ⟨hb1, hb2⟩ := rowR_bounds k n A B hrow
      refine ⟨?_, ?_, by rw [← r2]; exact r3⟩
      · clear r1 r2 r3 e1 e2 e4 h0 hrow hb2 hof
        rcases kinds k hk with rfl | rfl | rfl | rfl | rfl | rfl | rfl | rfl | rfl | rfl | rfl | rfl | rfl | rfl | rfl | rfl <;> simp [rl, ruleT]
      · refine Int.mul_nonneg ?_ hb1
        clear r1 r2 r3 e1 e2 e4 h0 hrow hb2 hof
        rcases kinds k hk with rfl | rfl | rfl | rfl | rfl | rfl | rfl | rfl | rfl | rfl | rfl | rfl | rfl | rfl | rfl | rfl <;> simp [rl, ruleT]
    rw [show chkM k n A B = 0 from e1.trans h0]
    rw [e1, h0, if_pos rfl] at e4
    rw [e4]
    rw [h0] at e1
    clear e2 e4 r1 r2 r3 h0
    generalize ofM k n A B = R at *
    obtain ⟨⟨l, m, a, ins, outs, h, e⟩, er⟩ := R
    dsimp only at *
    subst e1
    obtain ⟨hb1, hb2, hb3⟩ := hb1
    have HO := Lib.hid hof; clear hof
    have HA := Lib.hid hA; clear hA
    generalize hp : e * n = p at *
    go_enter Try.func32, Try.ntmps32
    go_wp2_with (go_at_call 59; refine (HO.out _ (HA.out.fr ((Fr.refl No w).alloc _) (fun _ _ _ _ _ _ x => x))).mono ?_; rintro e1 w1 ⟨rfl, hfr1⟩; dsimp only [Rl.cells]; have hp1 := (fun o => hfr1.at.1 w.heap.size o (by simp)); have hz1 : w.heap.size < w1.heap.size := (by have := hfr1.size; simp at this; omega))
    go_ret2
    exact ⟨rfl, (((Fr.refl _ _).alloc _).trans hfr1).alloc _⟩
  · have h0' : (ofM k n A B).2 ≠ 0 := by rw [e1]; exact h0
    rw [e4, if_neg h0']
    have hne : ((ofM k n A B).2 != 0) = true := by simpa using h0'
    unfold chkM
    clear e1 e2 e4 h0 h0'
    generalize ofM k n A B = R at *
    obtain ⟨⟨l, m, a, ins, outs, h, e⟩, er⟩ := R
    dsimp only at *
    have HO := Lib.hid hof; clear hof
    have HA := Lib.hid hA; clear hA
    go_enter Try.func32, Try.ntmps32
    go_wp2_with (go_at_call 59; refine (HO.out _ (HA.out.fr ((Fr.refl No w).alloc _) (fun _ _ _ _ _ _ x => x))).mono ?_; rintro e1 w1 ⟨rfl, hfr1⟩; dsimp only [Rl.cells])
    go_ret2
    exact ⟨rfl, (((Fr.refl _ _).alloc _).trans hfr1).alloc _⟩
end Go.Proofs.Ytljldkknopmfhaa
