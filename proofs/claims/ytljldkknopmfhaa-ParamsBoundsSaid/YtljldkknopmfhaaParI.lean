/- ParamsTells and ParamsBounds, walked. -/
import Derived.Test.YtljldkknopmfhaaParG
import Derived.Test.YtljldkknopmfhaaLiftP
namespace Go.Proofs.Ytljldkknopmfhaa
open Go.RowKit

theorem arity_r (k n : Int) (aA aB : Option Addr) (A B : List UInt8) (cA cB : Nat) (w : World) (hn : n ≤ 9223372036854775807) (hA : At w aA (A.map bv)) (hl : A.length ≤ 100000000) (hl2 : B.length ≤ 100000000) :
    Calls Try.prog 30 #[.agg #[.int .i64 k, .int .i64 n, .slice aA A.length cA, .slice aB B.length cB]] w (I3Post w (insR k n A B) (outsR k n A B) (chkR k n A B)) := by
  have h := arity_any k n aA aB A B cA cB w hA hl hl2
  obtain ⟨e1, e2, e3, _⟩ := agree k n A B hn
  rwa [e1, e2, e3] at h
theorem bound_r (k n : Int) (aA aB : Option Addr) (A B : List UInt8) (cA cB : Nat) (w : World) (hn : n ≤ 9223372036854775807) (hA : At w aA (A.map bv)) (hl : A.length ≤ 100000000) (hl2 : B.length ≤ 100000000) :
    Calls Try.prog 32 #[.agg #[.int .i64 k, .int .i64 n, .slice aA A.length cA, .slice aB B.length cB]] w (I2Post w (bndR k n A B) (chkR k n A B)) := by
  have h := bound_any k n aA aB A B cA cB w hn hA hl hl2
  obtain ⟨e1, _, _, e4⟩ := agree k n A B hn
  rwa [e1, e4] at h
theorem check_r' (k n : Int) (aA aB : Option Addr) (A B : List UInt8) (cA cB : Nat) (w : World) (hn : n ≤ 9223372036854775807) (hA : At w aA (A.map bv)) (hl : A.length ≤ 100000000) (hl2 : B.length ≤ 100000000) :
    Calls Try.prog 27 #[.agg #[.int .i64 k, .int .i64 n, .slice aA A.length cA, .slice aB B.length cB]] w (IPost w (chkR k n A B)) := by
  have h := check_any k n aA aB A B cA cB w hA hl hl2
  rwa [(agree k n A B hn).1] at h
set_option maxHeartbeats 2000000 in
set_option maxRecDepth 100000 in
theorem core_paramsTells (w : World) (k n : Int) (aA aB : Option Addr) (A B : List UInt8) (cA cB : Nat) (hn : n ≤ 9223372036854775807) (hA : At w aA (A.map bv)) :
    Calls Try.prog 5 #[.agg #[.int .i64 k, .int .i64 n, .slice aA A.length cA, .slice aB B.length cB]] w (TruePost w) := by
  by_cases hlen : A.length ≤ 2000 ∧ B.length ≤ 2000
  · obtain ⟨h1, h2⟩ := hlen
    have hl : A.length ≤ 100000000 := by omega
    have hl2 : B.length ≤ 100000000 := by omega
    have HA := Lib.hid (fun (W : World) (hW : Fr No w W) => arity_r k n aA aB A B cA cB W hn (at_no hA hW) hl hl2)
    have HRA := Lib.hid (fun (W : World) (hW : Fr No w W) => rarity_any k n aA aB A B cA cB W (at_no hA hW) hl hl2)
    have HB := Lib.hid (fun (W : World) (hW : Fr No w W) => bound_r k n aA aB A B cA cB W hn (at_no hA hW) hl hl2)
    have HRB := Lib.hid (fun (W : World) (hW : Fr No w W) => rbound_any k n aA aB A B cA cB W (at_no hA hW) hl hl2)
    clear hA
    generalize chkR k n A B = c at *
    generalize insR k n A B = i at *
    generalize outsR k n A B = o at *
    generalize bndR k n A B = b at *
    go_enter Try.func5, Try.ntmps5
    go_wp2_with (first
      | (go_at_call 24; refine (long_false k n aA aB A.length B.length cA cB _ h1 h2).mono ?_; rintro e1 w1 ⟨rfl, f1⟩; obtain ⟨b1, z1⟩ := box_at f1; have K1 := Lib.hid (((Fr.refl No w).alloc _).trans f1))
      | (go_at_call 30; refine (HA.out _ K1.out).mono ?_; rintro e2 w2 ⟨rfl, f2⟩; obtain ⟨b2, z2⟩ := box_at (f1.trans f2); have K2 := Lib.hid (K1.out.trans f2))
      | (go_at_call 31; refine (HRA.out _ K2.out).mono ?_; rintro e3 w3 ⟨rfl, f3⟩; obtain ⟨b3, z3⟩ := box_at ((f1.trans f2).trans f3); have K3 := Lib.hid (K2.out.trans f3))
      | (go_at_call 32; refine (HB.out _ K3.out).mono ?_; rintro e4 w4 ⟨rfl, f4⟩; obtain ⟨b4, z4⟩ := box_at (((f1.trans f2).trans f3).trans f4); have K4 := Lib.hid (K3.out.trans f4))
      | (go_at_call 33; refine (HRB.out _ K4.out).mono ?_; rintro e5 w5 ⟨rfl, f5⟩)
      | (go_at_call 25; refine (awake_any _).mono ?_; rintro e6 w6 ⟨rfl, f6⟩))
    go_ret
    exact ⟨rfl, (K4.out.trans f5).trans f6⟩
  · go_enter Try.func5, Try.ntmps5
    go_wp2_with (first
      | (go_at_call 24; refine (long_true k n aA aB A.length B.length cA cB _ hlen).mono ?_; rintro e1 w1 ⟨rfl, hfr1⟩)
      | (go_at_call 25; refine (awake_any _).mono ?_; rintro e6 w6 ⟨rfl, g4⟩))
    go_ret
    exact ⟨rfl, (((Fr.refl _ _).alloc _).trans hfr1).trans g4⟩
theorem walk_paramsTells (w : World) {v : Value} (k n : Int) (A B : List UInt8) (h : IsPar w v k n A B) : Calls Try.prog 5 #[v] w (TruePost w) := by
  obtain ⟨aA, cA, aB, cB, rfl, _, hn, hA, hB, _⟩ := h
  exact core_paramsTells w k n aA aB A B cA cB hn.2 hA

theorem R_range (k n : Int) (A B : List UInt8) (hn : n ≤ 9223372036854775807) (h : chkR k n A B = 0) :
    0 ≤ insR k n A B ∧ insR k n A B ≤ 4 ∧ 0 ≤ outsR k n A B ∧ outsR k n A B ≤ 4 ∧ insR k n A B + outsR k n A B ≠ 0 ∧ 0 ≤ bndR k n A B ∧ bndR k n A B ≤ 2048 := by
  obtain ⟨hk, hrow⟩ := chkR_kind k n A B h
  obtain ⟨hb1, hb2⟩ := rowR_bounds k n A B hrow
  obtain ⟨r1, r2, _⟩ := (row_alike k n A B hn hk).1 hrow
  have hb : bndR k n A B = holdsR k n := by unfold bndR; rw [if_neg (by simp [h])]
  obtain ⟨_, g2, g3⟩ := (of_alike k n A B hn).2.1 h
  have hi : insR k n A B = if k = 1 then 0 else if k = 2 then 1 else if k = 12 ∨ k = 13 then n else if k = 14 then 2 else 1 := by unfold insR; rw [if_neg (by simp [h])]
  have ho : outsR k n A B = if k = 1 then 1 else if k = 2 then 0 else if k = 15 ∨ k = 16 then n else 1 := by unfold outsR; rw [if_neg (by simp [h])]
  rw [hb, hi, ho]
  clear hb hi ho g2 h hrow
  rcases kinds k hk with rfl | rfl | rfl | rfl | rfl | rfl | rfl | rfl | rfl | rfl | rfl | rfl | rfl | rfl | rfl | rfl <;>
    simp [rl, ruleT] at r1 r2 <;> simp [holdsR] at g3 ⊢ <;> (try split at g3) <;> (try split) <;> omega
theorem R_mono (k n m : Int) (A B : List UInt8) (hn : n ≤ 9223372036854775807) (hm : m ≤ 9223372036854775807) (h : chkR k n A B = 0) (h' : chkR k m A B = 0) (hle : m ≤ n) : bndR k m A B ≤ bndR k n A B := by
  obtain ⟨hk, _⟩ := chkR_kind k n A B h
  have hb : bndR k n A B = holdsR k n := by unfold bndR; rw [if_neg (by simp [h])]
  have hb' : bndR k m A B = holdsR k m := by unfold bndR; rw [if_neg (by simp [h'])]
  obtain ⟨_, g2, _⟩ := (of_alike k n A B hn).2.1 h
  obtain ⟨_, g2', _⟩ := (of_alike k m A B hm).2.1 h'
  rw [hb, hb', g2, g2']
  clear hb hb' g2 g2' h h'
  rcases kinds k hk with rfl | rfl | rfl | rfl | rfl | rfl | rfl | rfl | rfl | rfl | rfl | rfl | rfl | rfl | rfl | rfl <;> simp [rl, ruleT] <;> omega
end Go.Proofs.Ytljldkknopmfhaa
