/- HeadMakes, walked. -/
import Derived.Test.YtjnebkoohimgjaaDoorFdIf
import Derived.Test.YtjnebkoohimgjaaDoorFdLaw
import Derived.Test.YtjnebkoohimgjaaDoorCopyP
import Derived.Test.YtjnebkoohimgjaaDoorLiftP
namespace Go.Proofs.YtjnebkoohimgjaaDoor
open Go.RowKit

/-- What is answered. -/
def wantC (K c k : Int) : Int := if c = 0 ∧ k ≠ K then 10 else c
theorem fchk_want (K k n : Int) (A B : List UInt8) (hn : n ≤ 9223372036854775807) : fchk K k n A B = wantC K (chkR k n A B) k := by
  unfold fchk wantC
  rw [(agree k n A B hn).1]
  by_cases h1 : chkR k n A B = 0
  · rw [h1]; by_cases h2 : k = K <;> simp [h2]
  · simp [h1]
set_option maxHeartbeats 4000000 in
set_option maxRecDepth 100000 in
theorem core_makes (w : World) (hG : GM w) (k n : Int) (aA aB : Option Addr) (A B : List UInt8) (cA cB : Nat) (hn : n ≤ 9223372036854775807) (hA : At w aA (A.map bv)) (hB : At w aB (B.map bv)) :
    Calls Tryd.prog 5 #[.agg #[.int .i64 k, .int .i64 n, .slice aA A.length cA, .slice aB B.length cB]] w (TruePost w) := by
  have HG0 := Lib.hid hG; clear hG
  have HA := Lib.hid hA; have HB := Lib.hid hB
  clear hA hB
  have hhv := fun (W : World) => heavy_any k n aA aB none none A B cA cB 0 0 [] [] W (At.nil _ _) (At.nil _ _) (by simp)
  simp only [List.length_nil] at hhv
  cases hh : heavyB A B [] [] with
  | true =>
    rw [hh] at hhv
    have HV := Lib.hid hhv; clear hhv hh
    go_enter Tryd.func5, Tryd.ntmps5
    go_wp2_with (first
      | (go_at_call 9; refine (HV.out _).mono ?_; rintro e1 w1 ⟨rfl, hf1⟩)
      | (go_at_call 11; refine (awake_any _ (HG0.out.no ((((Fr.refl No w).alloc _).trans hf1)))).mono ?_; rintro e9 w9 ⟨rfl, hf9⟩))
    go_ret
    exact ⟨rfl, (((Fr.refl No w).alloc _).trans hf1).trans hf9⟩
  | false =>
    rw [hh] at hhv
    have HV := Lib.hid hhv; clear hhv
    simp only [heavyB, decide_eq_false_iff_not, not_or] at hh
    obtain ⟨hA1, hB1, _⟩ := hh
    have hlA : A.length ≤ 100000000 := by omega
    have hlB : B.length ≤ 100000000 := by omega
    have HRC := Lib.hid (fun (W : World) (hW : Fr No w W) => rcheck_any k n aA aB A B cA cB W (at_no HA.out hW) hlA hlB)
    have HCP := Lib.hid (fun (W : World) (hW : Fr No w W) => copy_any k n aA aB A B cA cB W (at_no HA.out hW) (at_no HB.out hW) hlA hlB)
    have hsm := fun (W : World) (hW : Fr No w W) (a b : Option Addr) (c d : Nat) (ha : At W a (A.map bv)) (hb : At W b (B.map bv)) => rsame_any k n k n a b aA aB A B A B c d cA cB W ha hb (at_no HA.out hW) (at_no HB.out hW) hlA hlB hlA hlB
    rw [show sameB k n k n A B A B = true from by simp [sameB]] at hsm
    have HSM := Lib.hid hsm; clear hsm
    have hfw := fchk_want 7 k n A B hn
    by_cases hc : chkR k n A B = 0
    · by_cases hk : k = 7
      · subst hk
        have hf0 : fchk 7 7 n A B = 0 := by rw [hfw]; simp [wantC, hc]
        have HNW := Lib.hid (fun (W : World) (a b : Option Addr) (c d : Nat) (ha : At W a (A.map bv)) (hb : At W b (B.map bv)) (hG : GM W) => newM_yes n a b A B c d W ha hb hlA hlB hf0 hG)
        have HCC := Lib.hid hc
        clear hfw hf0 hc hA1 hB1
        go_enter Tryd.func5, Tryd.ntmps5
        go_wp2_with (first
          | (go_at_call 9; refine (HV.out _).mono ?_; rintro e1 w1 ⟨rfl, hf1⟩; obtain ⟨b1, z1⟩ := box_at hf1; have b10 := b1 0; have b11 := b1 1; have b12 := b1 2; have b13 := b1 3; clear b1
             have HK1 := Lib.hid (((Fr.refl No w).alloc _).trans hf1))
          | (go_at_call 19; refine (HRC.out _ HK1.out).mono ?_; rw [HCC.out]; rintro e2 w2 ⟨rfl, hf2⟩; obtain ⟨b2, z2⟩ := box_at (hf1.trans hf2); have b20 := b2 0; have b21 := b2 1; have b22 := b2 2; have b23 := b2 3; clear b2
             have HK2 := Lib.hid (HK1.out.trans hf2))
          | (go_at_call 20; refine (HCP.out _ HK2.out).mono ?_; rintro e3 w3 ⟨a', c', b', d', rfl, ha', hb', hf3⟩
             have HK3 := Lib.hid (HK2.out.trans hf3); have HA' := Lib.hid ha'; have HB' := Lib.hid hb'; clear ha' hb')
          | (go_at_call 13; refine (HNW.out _ a' b' c' d' (at_no HA'.out ((Fr.refl No _).alloc _)) (at_no HB'.out ((Fr.refl No _).alloc _)) (HG0.out.no (HK3.out.alloc _))).mono ?_; rintro e4 w4 ⟨g, F, rfl, hg, hr4, hf4⟩
             obtain ⟨b4, z4⟩ := box_at (((hf1.trans hf2).trans hf3).alloc _ |>.trans hf4); have b40 := b4 0; have b41 := b4 1; have b42 := b4 2; have b43 := b4 3; clear b4
             obtain ⟨o4, y4⟩ := box_at hf4; have o40 := o4 0; have o41 := o4 1; have o42 := o4 2; have o43 := o4 3; clear o4 hr4
             have HK4 := Lib.hid ((HK3.out.alloc _).trans hf4); have HF4 := Lib.hid (((Fr.refl No w3).alloc _).trans hf4))
          | (go_at_call 21; refine (HSM.out _ HK4.out a' b' c' d' (at_no HA'.out HF4.out) (at_no HB'.out HF4.out)).mono ?_; rintro e5 w5 ⟨rfl, hf5⟩)
          | (go_at_call 11; refine (awake_any _ (HG0.out.no ((HK4.out.trans hf5)))).mono ?_; rintro e9 w9 ⟨rfl, hf9⟩))
        go_ret
        exact ⟨rfl, (HK4.out.trans hf5).trans hf9⟩
      · have hf0 : fchk 7 k n A B = 10 := by rw [hfw]; simp [wantC, hc, hk]
        have hnw := fun (W : World) (a b : Option Addr) (c d : Nat) (ha : At W a (A.map bv)) => newM_no k n a b A B c d W ha hlA hlB (by rw [hf0]; decide)
        rw [hf0] at hnw
        have HNW := Lib.hid hnw; clear hnw
        have hkb : (k != 7) = true := by simpa using hk
        have HCC := Lib.hid hc
        clear hfw hf0 hc hA1 hB1 hk
        go_enter Tryd.func5, Tryd.ntmps5
        go_wp2_with (first
          | (go_at_call 9; refine (HV.out _).mono ?_; rintro e1 w1 ⟨rfl, hf1⟩; obtain ⟨b1, z1⟩ := box_at hf1; have b10 := b1 0; have b11 := b1 1; have b12 := b1 2; have b13 := b1 3; clear b1
             have HK1 := Lib.hid (((Fr.refl No w).alloc _).trans hf1))
          | (go_at_call 19; refine (HRC.out _ HK1.out).mono ?_; rw [HCC.out]; rintro e2 w2 ⟨rfl, hf2⟩; obtain ⟨b2, z2⟩ := box_at (hf1.trans hf2); have b20 := b2 0; have b21 := b2 1; have b22 := b2 2; have b23 := b2 3; clear b2
             have HK2 := Lib.hid (HK1.out.trans hf2))
          | (go_at_call 20; refine (HCP.out _ HK2.out).mono ?_; rintro e3 w3 ⟨a', c', b', d', rfl, ha', hb', hf3⟩
             have HK3 := Lib.hid (HK2.out.trans hf3); have HA' := Lib.hid ha'; have HB' := Lib.hid hb'; clear ha' hb')
          | (go_at_call 13; refine (HNW.out _ a' b' c' d' (at_no HA'.out ((Fr.refl No _).alloc _))).mono ?_; rintro e4 w4 ⟨rfl, hf4⟩
             obtain ⟨b4, z4⟩ := box_at (((hf1.trans hf2).trans hf3).alloc _ |>.trans hf4); have b40 := b4 0; have b41 := b4 1; have b42 := b4 2; have b43 := b4 3; clear b4
             obtain ⟨o4, y4⟩ := box_at hf4; have o40 := o4 0; have o41 := o4 1; have o42 := o4 2; have o43 := o4 3; clear o4
             have HK4 := Lib.hid ((HK3.out.alloc _).trans hf4); have HF4 := Lib.hid (((Fr.refl No w3).alloc _).trans hf4))
          | (go_at_call 21; refine (HSM.out _ HK4.out a' b' c' d' (at_no HA'.out HF4.out) (at_no HB'.out HF4.out)).mono ?_; rintro e5 w5 ⟨rfl, hf5⟩)
          | (go_at_call 11; refine (awake_any _ (HG0.out.no ((HK4.out.trans hf5)))).mono ?_; rintro e9 w9 ⟨rfl, hf9⟩))
        go_ret
        exact ⟨rfl, (HK4.out.trans hf5).trans hf9⟩
    · have hf0 : fchk 7 k n A B = chkR k n A B := by rw [hfw]; simp [wantC, hc]
      have hnw := fun (W : World) (a b : Option Addr) (c d : Nat) (ha : At W a (A.map bv)) => newM_no k n a b A B c d W ha hlA hlB (by rw [hf0]; exact hc)
      rw [hf0] at hnw
      have HNW := Lib.hid hnw; clear hnw
      have hcb : (chkR k n A B == 0) = false := by simpa using hc
      clear hfw hf0 hc hA1 hB1
      generalize chkR k n A B = c0 at *
      go_enter Tryd.func5, Tryd.ntmps5
      go_wp2_with (first
        | (go_at_call 9; refine (HV.out _).mono ?_; rintro e1 w1 ⟨rfl, hf1⟩; obtain ⟨b1, z1⟩ := box_at hf1; have b10 := b1 0; have b11 := b1 1; have b12 := b1 2; have b13 := b1 3; clear b1
           have HK1 := Lib.hid (((Fr.refl No w).alloc _).trans hf1))
        | (go_at_call 19; refine (HRC.out _ HK1.out).mono ?_; rintro e2 w2 ⟨rfl, hf2⟩; obtain ⟨b2, z2⟩ := box_at (hf1.trans hf2); have b20 := b2 0; have b21 := b2 1; have b22 := b2 2; have b23 := b2 3; clear b2
           have HK2 := Lib.hid (HK1.out.trans hf2))
        | (go_at_call 20; refine (HCP.out _ HK2.out).mono ?_; rintro e3 w3 ⟨a', c', b', d', rfl, ha', hb', hf3⟩
           have HK3 := Lib.hid (HK2.out.trans hf3); have HA' := Lib.hid ha'; have HB' := Lib.hid hb'; clear ha' hb')
        | (go_at_call 13; refine (HNW.out _ a' b' c' d' (at_no HA'.out ((Fr.refl No _).alloc _))).mono ?_; rintro e4 w4 ⟨rfl, hf4⟩
           obtain ⟨b4, z4⟩ := box_at (((hf1.trans hf2).trans hf3).alloc _ |>.trans hf4); have b40 := b4 0; have b41 := b4 1; have b42 := b4 2; have b43 := b4 3; clear b4
           obtain ⟨o4, y4⟩ := box_at hf4; have o40 := o4 0; have o41 := o4 1; have o42 := o4 2; have o43 := o4 3; clear o4
           have HK4 := Lib.hid ((HK3.out.alloc _).trans hf4); have HF4 := Lib.hid (((Fr.refl No w3).alloc _).trans hf4))
        | (go_at_call 21; refine (HSM.out _ HK4.out a' b' c' d' (at_no HA'.out HF4.out) (at_no HB'.out HF4.out)).mono ?_; rintro e5 w5 ⟨rfl, hf5⟩)
        | (go_at_call 11; refine (awake_any _ (HG0.out.no ((HK4.out.trans hf5)))).mono ?_; rintro e9 w9 ⟨rfl, hf9⟩))
      go_ret
      exact ⟨rfl, (HK4.out.trans hf5).trans hf9⟩
theorem walk_fieldsMakes (w : World) (hG : GM w) {v0 : Value} (k n : Int) (A B : List UInt8) (h : IsPar w v0 k n A B) : Calls Tryd.prog 5 #[v0] w (TruePost w) := by
  obtain ⟨aA, cA, aB, cB, rfl, _, hn, hA, hB, _⟩ := h
  exact core_makes w hG k n aA aB A B cA cB hn.2 hA hB
end Go.Proofs.YtjnebkoohimgjaaDoor
