/- ParamsBounds, walked. -/
import Derived.Test.YtljldkknopmfhaaParI
namespace Go.Proofs.Ytljldkknopmfhaa
open Go.RowKit

set_option maxHeartbeats 2000000 in
set_option maxRecDepth 100000 in
theorem core_paramsBounds (w : World) (k n : Int) (aA aB : Option Addr) (A B : List UInt8) (cA cB : Nat) (hn : n ≤ 9223372036854775807) (hA : At w aA (A.map bv)) (m : Int) (hm : m ≤ 9223372036854775807) :
    Calls Try.prog 6 #[.agg #[.int .i64 k, .int .i64 n, .slice aA A.length cA, .slice aB B.length cB], .int .i64 m] w (TruePost w) := by
  by_cases hlen : A.length ≤ 2000 ∧ B.length ≤ 2000
  · obtain ⟨h1, h2⟩ := hlen
    have hl : A.length ≤ 100000000 := by omega
    have hl2 : B.length ≤ 100000000 := by omega
    have HA := Lib.hid (fun (W : World) (hW : Fr No w W) => arity_r k n aA aB A B cA cB W hn (at_no hA hW) hl hl2)
    have HB := Lib.hid (fun (W : World) (hW : Fr No w W) => bound_r k n aA aB A B cA cB W hn (at_no hA hW) hl hl2)
    have HC := Lib.hid (fun (W : World) (hW : Fr No w W) => check_r' k n aA aB A B cA cB W hn (at_no hA hW) hl hl2)
    have HQ := Lib.hid (fun (W : World) (hW : Fr No w W) => bound_r k m aA aB A B cA cB W hm (at_no hA hW) hl hl2)
    clear hA
    by_cases h0 : chkR k n A B = 0
    · obtain ⟨i0, i1, o0, o1, hio, b0, b1⟩ := R_range k n A B hn h0
      have hmono : chkR k m A B = 0 → m ≤ n → bndR k m A B ≤ bndR k n A B := R_mono k n m A B hn hm h0
      rw [h0] at HA HB HC
      generalize insR k n A B = i at *
      generalize outsR k n A B = o at *
      generalize bndR k n A B = b at *
      generalize bndR k m A B = b' at *
      generalize chkR k m A B = c' at *
      have hio' : (i + o == 0) = false := by simpa using hio
      have d1 : decide (i < 0) = false := decide_eq_false (by omega)
      have d2 : decide (o < 0) = false := decide_eq_false (by omega)
      have d3 : decide (4 < i) = false := decide_eq_false (by omega)
      have d4 : decide (4 < o) = false := decide_eq_false (by omega)
      have d5 : decide (b < 0) = false := decide_eq_false (by omega)
      have d6 : decide (2048 < b) = false := decide_eq_false (by omega)
      have HM := Lib.hid hmono
      clear hmono h0 hio
      by_cases hc : c' = 0
      · subst hc
        by_cases hmn : m ≤ n
        · have hbb : decide (b < b') = false := decide_eq_false (by have := HM.out rfl hmn; omega)
          go_enter Try.func6, Try.ntmps6
          go_wp2_with (first
            | (go_at_call 24; refine (long_false k n aA aB A.length B.length cA cB _ h1 h2).mono ?_; rintro e1 w1 ⟨rfl, f1⟩; obtain ⟨b1, z1⟩ := box_at f1; have K1 := Lib.hid (((Fr.refl No w).alloc _).trans f1))
            | (go_at_call 30; refine (HA.out _ K1.out).mono ?_; rintro e2 w2 ⟨rfl, f2⟩; obtain ⟨b2, z2⟩ := box_at (f1.trans f2); have K2 := Lib.hid (K1.out.trans f2))
            | (go_at_call_of 32 (Value.agg #[.int .i64 k, .int .i64 n, .slice aA A.length cA, .slice aB B.length cB]); (with_reducible refine (HB.out _ K2.out).mono ?_); rintro e3 w3 ⟨rfl, f3⟩; obtain ⟨b3, z3⟩ := box_at ((f1.trans f2).trans f3); have K3 := Lib.hid (K2.out.trans f3))
            | (go_at_call 27; refine (HC.out _ K3.out).mono ?_; rintro e4 w4 ⟨rfl, f4⟩; obtain ⟨b4, z4⟩ := box_at (((f1.trans f2).trans f3).trans f4); have K4 := Lib.hid (K3.out.trans f4))
            | (go_at_call 32; refine (HQ.out _ (K4.out.alloc _)).mono ?_; rintro e5 w5 ⟨rfl, f5⟩; obtain ⟨b5, z5⟩ := box_at (((((f1.trans f2).trans f3).trans f4).alloc _).trans f5); have K5 := Lib.hid ((K4.out.alloc _).trans f5))
            | (go_at_call 25; refine (awake_any _).mono ?_; rintro e6 w6 ⟨rfl, f6⟩))
          go_ret
          exact ⟨rfl, K5.out.trans f6⟩
        · go_enter Try.func6, Try.ntmps6
          go_wp2_with (first
            | (go_at_call 24; refine (long_false k n aA aB A.length B.length cA cB _ h1 h2).mono ?_; rintro e1 w1 ⟨rfl, f1⟩; obtain ⟨b1, z1⟩ := box_at f1; have K1 := Lib.hid (((Fr.refl No w).alloc _).trans f1))
            | (go_at_call 30; refine (HA.out _ K1.out).mono ?_; rintro e2 w2 ⟨rfl, f2⟩; obtain ⟨b2, z2⟩ := box_at (f1.trans f2); have K2 := Lib.hid (K1.out.trans f2))
            | (go_at_call_of 32 (Value.agg #[.int .i64 k, .int .i64 n, .slice aA A.length cA, .slice aB B.length cB]); (with_reducible refine (HB.out _ K2.out).mono ?_); rintro e3 w3 ⟨rfl, f3⟩; obtain ⟨b3, z3⟩ := box_at ((f1.trans f2).trans f3); have K3 := Lib.hid (K2.out.trans f3))
            | (go_at_call 27; refine (HC.out _ K3.out).mono ?_; rintro e4 w4 ⟨rfl, f4⟩; obtain ⟨b4, z4⟩ := box_at (((f1.trans f2).trans f3).trans f4); have K4 := Lib.hid (K3.out.trans f4))
            | (go_at_call 32; refine (HQ.out _ (K4.out.alloc _)).mono ?_; rintro e5 w5 ⟨rfl, f5⟩; obtain ⟨b5, z5⟩ := box_at (((((f1.trans f2).trans f3).trans f4).alloc _).trans f5); have K5 := Lib.hid ((K4.out.alloc _).trans f5))
            | (go_at_call 25; refine (awake_any _).mono ?_; rintro e6 w6 ⟨rfl, f6⟩))
          go_ret
          exact ⟨rfl, K5.out.trans f6⟩
      · have hc' : (c' == 0) = false := by simpa using hc
        clear hc
        go_enter Try.func6, Try.ntmps6
        go_wp2_with (first
          | (go_at_call 24; refine (long_false k n aA aB A.length B.length cA cB _ h1 h2).mono ?_; rintro e1 w1 ⟨rfl, f1⟩; obtain ⟨b1, z1⟩ := box_at f1; have K1 := Lib.hid (((Fr.refl No w).alloc _).trans f1))
          | (go_at_call 30; refine (HA.out _ K1.out).mono ?_; rintro e2 w2 ⟨rfl, f2⟩; obtain ⟨b2, z2⟩ := box_at (f1.trans f2); have K2 := Lib.hid (K1.out.trans f2))
          | (go_at_call_of 32 (Value.agg #[.int .i64 k, .int .i64 n, .slice aA A.length cA, .slice aB B.length cB]); (with_reducible refine (HB.out _ K2.out).mono ?_); rintro e3 w3 ⟨rfl, f3⟩; obtain ⟨b3, z3⟩ := box_at ((f1.trans f2).trans f3); have K3 := Lib.hid (K2.out.trans f3))
          | (go_at_call 27; refine (HC.out _ K3.out).mono ?_; rintro e4 w4 ⟨rfl, f4⟩; obtain ⟨b4, z4⟩ := box_at (((f1.trans f2).trans f3).trans f4); have K4 := Lib.hid (K3.out.trans f4))
          | (go_at_call 32; refine (HQ.out _ (K4.out.alloc _)).mono ?_; rintro e5 w5 ⟨rfl, f5⟩; obtain ⟨b5, z5⟩ := box_at (((((f1.trans f2).trans f3).trans f4).alloc _).trans f5); have K5 := Lib.hid ((K4.out.alloc _).trans f5))
          | (go_at_call 25; refine (awake_any _).mono ?_; rintro e6 w6 ⟨rfl, f6⟩))
        go_ret
        exact ⟨rfl, K5.out.trans f6⟩
    · have e1 : insR k n A B = 0 := by unfold insR; rw [if_pos h0]
      have e2 : outsR k n A B = 0 := by unfold outsR; rw [if_pos h0]
      have e3 : bndR k n A B = 0 := by unfold bndR; rw [if_pos h0]
      rw [e1, e2] at HA
      rw [e3] at HB
      have hc : (chkR k n A B != 0) = true := by simpa using h0
      have hc2 : (chkR k n A B == 0) = false := by simpa using h0
      clear h0 e1 e2 e3
      generalize chkR k n A B = c at *
      go_enter Try.func6, Try.ntmps6
      go_wp2_with (first
        | (go_at_call 24; refine (long_false k n aA aB A.length B.length cA cB _ h1 h2).mono ?_; rintro e1 w1 ⟨rfl, f1⟩; obtain ⟨b1, z1⟩ := box_at f1; have K1 := Lib.hid (((Fr.refl No w).alloc _).trans f1))
        | (go_at_call 30; refine (HA.out _ K1.out).mono ?_; rintro e2 w2 ⟨rfl, f2⟩; obtain ⟨b2, z2⟩ := box_at (f1.trans f2); have K2 := Lib.hid (K1.out.trans f2))
        | (go_at_call_of 32 (Value.agg #[.int .i64 k, .int .i64 n, .slice aA A.length cA, .slice aB B.length cB]); (with_reducible refine (HB.out _ K2.out).mono ?_); rintro e3 w3 ⟨rfl, f3⟩; obtain ⟨b3, z3⟩ := box_at ((f1.trans f2).trans f3); have K3 := Lib.hid (K2.out.trans f3))
        | (go_at_call 27; refine (HC.out _ K3.out).mono ?_; rintro e4 w4 ⟨rfl, f4⟩; obtain ⟨b4, z4⟩ := box_at (((f1.trans f2).trans f3).trans f4); have K4 := Lib.hid (K3.out.trans f4))
        | (go_at_call 32; refine (HQ.out _ (K4.out.alloc _)).mono ?_; rintro e5 w5 ⟨rfl, f5⟩; obtain ⟨b5, z5⟩ := box_at (((((f1.trans f2).trans f3).trans f4).alloc _).trans f5); have K5 := Lib.hid ((K4.out.alloc _).trans f5))
        | (go_at_call 25; refine (awake_any _).mono ?_; rintro e6 w6 ⟨rfl, f6⟩))
      go_ret
      exact ⟨rfl, K4.out.trans f6⟩
  · go_enter Try.func6, Try.ntmps6
    go_wp2_with (first
      | (go_at_call 24; refine (long_true k n aA aB A.length B.length cA cB _ hlen).mono ?_; rintro e1 w1 ⟨rfl, hfr1⟩)
      | (go_at_call 25; refine (awake_any _).mono ?_; rintro e6 w6 ⟨rfl, g4⟩))
    go_ret
    exact ⟨rfl, (((Fr.refl _ _).alloc _).trans hfr1).trans g4⟩
theorem walk_paramsBounds (w : World) {v : Value} (k n : Int) (A B : List UInt8) (h : IsPar w v k n A B) (m : Int) (hm : (Lit.int .i64 m).wf = true) : Calls Try.prog 6 #[v, .int .i64 m] w (TruePost w) := by
  obtain ⟨aA, cA, aB, cB, rfl, _, hn, hA, hB, _⟩ := h
  exact core_paramsBounds w k n aA aB A B cA cB hn.2 hA m (i64_bounds hm).2
end Go.Proofs.Ytljldkknopmfhaa
