/- HeadMeans, walked. -/
import Derived.Test.YtjnebkoohimgjaaDoorFdIf
import Derived.Test.YtjnebkoohimgjaaDoorSame
import Derived.Test.YtjnebkoohimgjaaDoorCopyP
import Derived.Test.YtjnebkoohimgjaaDoorFdLaw
import Derived.Test.YtjnebkoohimgjaaDoorLiftP
import Derived.Test.YtjnebkoohimgjaaDoorLiftS
import Derived.Deep.RegionHeld3
namespace Go.Proofs.YtjnebkoohimgjaaDoor
open Go.RowKit

set_option maxHeartbeats 4000000 in
set_option maxRecDepth 100000 in
theorem core_means (w : World) (hG : GM w) (k n : Int) (aA aB : Option Addr) (A B : List UInt8) (cA cB : Nat) (ai : Option Addr) (ci : Nat) (ss : List Strm) (ca : Option Addr) (cc : Nat) (cuts : List Int) (hn : n ≤ 9223372036854775807)
    (hA : At w aA (A.map bv)) (hB : At w aB (B.map bv)) (hs : At w ai (scells ss)) (hss : ∀ s ∈ ss, At w s.a (s.b.map bv) ∧ s.b.length ≤ s.c) (hc : At w ca (cuts.map iv)) :
    Calls Tryd.prog 6 #[.agg #[.int .i64 k, .int .i64 n, .slice aA A.length cA, .slice aB B.length cB], .slice ai ss.length ci, .slice ca cuts.length cc] w (TruePost w) := by
  have HG0 := Lib.hid hG; clear hG
  have HA := Lib.hid hA; have HB := Lib.hid hB; have HS := Lib.hid hs; have HSS := Lib.hid hss; have HC := Lib.hid hc
  clear hA hB hs hss hc
  cases hh : heavyB A B ss [(ca, cuts.length, cc)] with
  | true =>
    have HH := Lib.hid hh; clear hh
    go_enter Tryd.func6, Tryd.ntmps6
    go_wp2_with (first
      | (go_at_call 9; refine (heavy_any k n aA aB ai (some ⟨w.heap.size + 1, 0, none⟩) A B cA cB ci 1 ss [(ca, cuts.length, cc)] _ (at_no HS.out (((Fr.refl No w).alloc _).alloc _)) (fun _ => ⟨w.heap.size + 1, 0, rfl, row_at _ #[.slice ca cuts.length cc] _ rfl _ (by simp) 28 (0, 0)⟩) (by simp)).mono ?_; rw [HH.out]; rintro e1 w1 ⟨rfl, hf1⟩)
      | (go_at_call 11; refine (awake_any _ (HG0.out.no (((((Fr.refl No w).alloc _).alloc _).trans hf1)))).mono ?_; rintro e9 w9 ⟨rfl, hf9⟩))
    go_ret
    exact ⟨rfl, ((((Fr.refl No w).alloc _).alloc _).trans hf1).trans hf9⟩
  | false =>
    have HH := Lib.hid hh
    simp only [heavyB, decide_eq_false_iff_not, not_or] at hh
    obtain ⟨hA1, hB1, _, hs2, hc3⟩ := hh
    have hlA : A.length ≤ 100000000 := by omega
    have hlB : B.length ≤ 100000000 := by omega
    cases hf : fitB 7 k n A B ss.length with
    | false =>
      have HFI := Lib.hid hf; clear hf hs2 hc3
      go_enter Tryd.func6, Tryd.ntmps6
      go_wp2_with (first
        | (go_at_call 9; refine (heavy_any k n aA aB ai (some ⟨w.heap.size + 1, 0, none⟩) A B cA cB ci 1 ss [(ca, cuts.length, cc)] _ (at_no HS.out (((Fr.refl No w).alloc _).alloc _)) (fun _ => ⟨w.heap.size + 1, 0, rfl, row_at _ #[.slice ca cuts.length cc] _ rfl _ (by simp) 28 (0, 0)⟩) (by simp)).mono ?_; rw [HH.out]; rintro e1 w1 ⟨rfl, hf1⟩
           have KF : Fr No w w1 := (((Fr.refl No w).alloc _).alloc _).trans hf1
           have HK := Lib.hid KF
           obtain ⟨b1, z1⟩ := box_at (((Fr.refl No _).alloc _).trans hf1)
           have b10 := b1 0; have b11 := b1 1; have b12 := b1 2; have b13 := b1 3; clear KF hf1 b1)
        | (go_at_call 10; refine (fit_any k n aA aB ai A B cA cB ss.length ci _ (at_no HA.out HK.out) hlA hlB).mono ?_; rw [HFI.out]; rintro e2 w2 ⟨rfl, hf2⟩)
        | (go_at_call 11; refine (awake_any _ (HG0.out.no ((HK.out.trans hf2)))).mono ?_; rintro e9 w9 ⟨rfl, hf9⟩))
      go_ret
      exact ⟨rfl, (HK.out.trans hf2).trans hf9⟩
    | true =>
      obtain ⟨rfl, hl1, hck, hfk⟩ := fit_says k n A B ss.length hn hf
      obtain ⟨s, rfl⟩ : ∃ s, ss = [s] := by
        match ss, hl1 with
        | [s], _ => exact ⟨s, rfl⟩
      obtain ⟨hsb, hsc⟩ := HSS.out s (by simp)
      have hb2 : ¬ 2000 < s.b.length := fun h => hs2 ⟨s, by simp, h⟩
      have hcl : ¬ 3000 < cuts.length := fun h => hc3 ⟨(ca, cuts.length, cc), by simp, h⟩
      obtain ⟨ig, ioff, rfl, hrow⟩ := HS.out (by simp [scells, Strm.cells])
      have hig := hrow.lt (by simp [scells, Strm.cells])
      have HROW : Hid (Row w ig ioff (strmC s.a s.b s.c s.ended s.ec s.es s.ei)) := Lib.hid (by simpa [scells, Strm.cells, strmC] using hrow)
      have HSB := Lib.hid hsb
      have HFI := Lib.hid hf; clear hf hs2 hc3 hsb hrow
      have HCK := Lib.hid hck; have HFK := Lib.hid hfk; clear hck hfk
      have HSM := Lib.hid (fun (W : World) (hW : Fr No w W) (held taken : Int) (g off c : Nat) (sa : Option Addr) (sc : Nat) hw hsa => sameM n A B HCK.out s.b s.ended s.ec s.es s.ei held taken ig ioff ci g off c sa sc s.a s.c W (HROW.out.fr hW (fun _ _ x => x)) hw hsa)
      have HMN := Lib.hid (fun (W : World) (hW : Fr No w W) => meansM_any n aA aB A B cA cB HCK.out ig ioff ci s W (at_no HA.out hW) (at_no HB.out hW) (HROW.out.fr hW (fun _ _ x => x)) (at_no HSB.out hW) (by omega) hsc)
      obtain ⟨r, hr⟩ : ∃ r, r = saysM n A B s.b s.ended := ⟨_, rfl⟩
      have HRR := Lib.hid hr.symm; clear hr
      rw [HRR.out] at HSM
      go_enter Tryd.func6, Tryd.ntmps6
      go_wp2_with (first
        | (go_at_call 9; refine (heavy_any 7 n aA aB (some ⟨ig, ioff, none⟩) (some ⟨w.heap.size + 1, 0, none⟩) A B cA cB ci 1 [s] [(ca, cuts.length, cc)] _ (at_no HS.out (((Fr.refl No w).alloc _).alloc _)) (fun _ => ⟨w.heap.size + 1, 0, rfl, row_at _ #[.slice ca cuts.length cc] _ rfl _ (by simp) 28 (0, 0)⟩) (by simp)).mono ?_; rw [HH.out]; rintro e1 w1 ⟨rfl, hf1⟩
           have KF : Fr No w w1 := (((Fr.refl No w).alloc _).alloc _).trans hf1
           have HK := Lib.hid KF
           obtain ⟨b1, z1⟩ := box_at (((Fr.refl No _).alloc _).trans hf1)
           have b10 := b1 0; have b11 := b1 1; have b12 := b1 2; have b13 := b1 3
           have HBX := Lib.hid b1; clear KF hf1 b1)
        | (go_at_call 10; refine (fit_any 7 n aA aB (some ⟨ig, ioff, none⟩) A B cA cB 1 ci _ (at_no HA.out HK.out) hlA hlB).mono ?_; rw [show fitB 7 7 n A B 1 = true from HFI.out]; rintro e2 w2 ⟨rfl, hf2⟩
           have HF2 := Lib.hid hf2
           have c20 := (hf2.at.1 w.heap.size 0 z1).trans b10; have c21 := (hf2.at.1 w.heap.size 1 z1).trans b11; have c22 := (hf2.at.1 w.heap.size 2 z1).trans b12; have c23 := (hf2.at.1 w.heap.size 3 z1).trans b13; have z2 := Nat.lt_of_lt_of_le z1 hf2.size; clear hf2)
        | (go_at_call 20; refine (copy_any 7 n aA aB A B cA cB _ (at_no HA.out (HK.out.trans HF2.out)) (at_no HB.out (HK.out.trans HF2.out)) hlA hlB).mono ?_; rintro e3 w3 ⟨a', c', b', d', rfl, ha', hb', hf3⟩
           have HA' := Lib.hid ha'; have HB' := Lib.hid hb'; have HF3 := Lib.hid hf3
           have c30 := (hf3.at.1 w.heap.size 0 z2).trans c20; have c31 := (hf3.at.1 w.heap.size 1 z2).trans c21; have c32 := (hf3.at.1 w.heap.size 2 z2).trans c22; have c33 := (hf3.at.1 w.heap.size 3 z2).trans c23; have z3 := Nat.lt_of_lt_of_le z2 hf3.size; clear hf3 ha' hb')
        | (go_at_call 13; refine (newM_yes n a' b' A B c' d' _ HA'.out HB'.out hlA hlB HFK.out (HG0.out.no ((HK.out.trans HF2.out).trans HF3.out))).mono ?_; rintro e4 w4 ⟨g, F, rfl, hg, hr4, hf4⟩
           have HR4 := Lib.hid hr4; have HF4 := Lib.hid hf4
           have c40 := (hf4.at.1 w.heap.size 0 z3).trans c30; have c41 := (hf4.at.1 w.heap.size 1 z3).trans c31; have c42 := (hf4.at.1 w.heap.size 2 z3).trans c32; have c43 := (hf4.at.1 w.heap.size 3 z3).trans c33; have z4 := Nat.lt_of_lt_of_le z3 hf4.size; clear hr4 hf4)
        | (go_at_call 14; refine (drive_M g n A B HCK.out ig ioff ci s.a s.c s.b s.ended s.ec s.es s.ei ca cc cuts F _ (HR4.out)
              (HROW.out.fr (((HK.out.trans HF2.out).trans HF3.out).trans HF4.out) (fun _ _ x => x)) (fun e => by have := HK.out.size; have := HF2.out.size; have := HF3.out.size; have := hg _ e; omega)
              (at_no HSB.out (((HK.out.trans HF2.out).trans HF3.out).trans HF4.out)) (fun h0 x off e hF => by obtain ⟨x', o', e', hr⟩ := HSB.out (by simpa using h0); rw [e'] at e; injection e with e; injection e with e; subst e; have h1 := hr.lt (by simpa using h0); have h2 := HK.out.size; have h3 := HF2.out.size; have h4 := HF3.out.size; have h5 := hg _ hF; omega) (by omega) hsc
              (at_no HC.out (((HK.out.trans HF2.out).trans HF3.out).trans HF4.out)) (fun h0 x off e hF => by obtain ⟨x', o', e', hr⟩ := HC.out (by simpa using h0); rw [e'] at e; injection e with e; injection e with e; subst e; have h1 := hr.lt (by simpa using h0); have h2 := HK.out.size; have h3 := HF2.out.size; have h4 := HF3.out.size; have h5 := hg _ hF; omega) (by omega)).mono ?_
           rw [HRR.out]
           rintro e5 w5 ⟨held, taken, s', F', rfl, h0, h64, hr5, hf5, _⟩
           dsimp only [gotC]
           have HW5 := Lib.hid (show Fr No w w5 from ((((HK.out.trans HF2.out).trans HF3.out).trans HF4.out).step hf5 (fun b o hb e => by have h2 := HK.out.size; have h3 := HF2.out.size; have h4 := HF3.out.size; have h5 := hg b e; omega)))
           have hgn : ¬ F w.heap.size := (fun e => by have h3 := HF2.out.size; have h4 := HF3.out.size; have h5 := hg _ e; omega)
           have c50 := (hf5.cell w.heap.size 0 z4 (fun e => hgn e)).trans c40; have c51 := (hf5.cell w.heap.size 1 z4 (fun e => hgn e)).trans c41; have c52 := (hf5.cell w.heap.size 2 z4 (fun e => hgn e)).trans c42; have c53 := (hf5.cell w.heap.size 3 z4 (fun e => hgn e)).trans c43
           have z5 := Nat.lt_of_lt_of_le z4 hf5.size
           clear hr5 hf5))
      have H16 := Lib.hid (fun (W : World) (f : Fr No (w5.alloc (.cells (gotC r.1 r.2.1 r.2.2 held taken) 45)) W) => (show W.cell? ⟨w.heap.size, 0, none⟩ = some (.int .i64 7) ∧ W.cell? ⟨w.heap.size, 1, none⟩ = some (.int .i64 n) ∧ W.cell? ⟨w.heap.size, 2, none⟩ = some (.slice aA A.length cA) ∧ W.cell? ⟨w.heap.size, 3, none⟩ = some (.slice aB B.length cB) ∧ W.cell? ⟨w5.heap.size, 0, none⟩ = some (sv r.1) ∧ W.cell? ⟨w5.heap.size, 1, none⟩ = some (sv []) ∧ W.cell? ⟨w5.heap.size, 2, none⟩ = some (sv []) ∧ W.cell? ⟨w5.heap.size, 3, none⟩ = some (sv []) ∧ W.cell? ⟨w5.heap.size, 4, none⟩ = some (.int .i64 r.2.1) ∧ W.cell? ⟨w5.heap.size, 5, none⟩ = some (.int .i64 r.2.2) ∧ W.cell? ⟨w5.heap.size, 6, none⟩ = some (.int .i64 held) ∧ W.cell? ⟨w5.heap.size, 7, none⟩ = some (.int .i64 taken) ∧ W.cell? ⟨w5.heap.size, 8, none⟩ = some (.int .i64 0) ∧ W.cell? ⟨w5.heap.size, 9, none⟩ = some (.int .i64 0) ∧ W.cell? ⟨w5.heap.size, 10, none⟩ = some (.int .i64 0) ∧ W.cell? ⟨w5.heap.size, 11, none⟩ = some (.bool false) from
        have x1 := (((Fr.refl No w5).alloc _).trans f).at.1 w.heap.size
        have x2 := (box_at f).1
        ⟨(x1 0 z5).trans c50, (x1 1 z5).trans c51, (x1 2 z5).trans c52, (x1 3 z5).trans c53, x2 0, x2 1, x2 2, x2 3, x2 4, x2 5, x2 6, x2 7, x2 8, x2 9, x2 10, x2 11⟩))
      have KF := Lib.hid (HW5.out.alloc (.cells (gotC r.1 r.2.1 r.2.2 held taken) 45))
      go_region_held3 (fun W => W.cell? ⟨w.heap.size, 0, none⟩ = some (.int .i64 7) ∧ W.cell? ⟨w.heap.size, 1, none⟩ = some (.int .i64 n) ∧ W.cell? ⟨w.heap.size, 2, none⟩ = some (.slice aA A.length cA) ∧ W.cell? ⟨w.heap.size, 3, none⟩ = some (.slice aB B.length cB) ∧ W.cell? ⟨w5.heap.size, 0, none⟩ = some (sv r.1) ∧ W.cell? ⟨w5.heap.size, 1, none⟩ = some (sv []) ∧ W.cell? ⟨w5.heap.size, 2, none⟩ = some (sv []) ∧ W.cell? ⟨w5.heap.size, 3, none⟩ = some (sv []) ∧ W.cell? ⟨w5.heap.size, 4, none⟩ = some (.int .i64 r.2.1) ∧ W.cell? ⟨w5.heap.size, 5, none⟩ = some (.int .i64 r.2.2) ∧ W.cell? ⟨w5.heap.size, 6, none⟩ = some (.int .i64 held) ∧ W.cell? ⟨w5.heap.size, 7, none⟩ = some (.int .i64 taken) ∧ W.cell? ⟨w5.heap.size, 8, none⟩ = some (.int .i64 0) ∧ W.cell? ⟨w5.heap.size, 9, none⟩ = some (.int .i64 0) ∧ W.cell? ⟨w5.heap.size, 10, none⟩ = some (.int .i64 0) ∧ W.cell? ⟨w5.heap.size, 11, none⟩ = some (.bool false))
        (first | exact H16.out _ (Fr.refl _ _).drew | exact H16.out _ ((Fr.refl _ _).drew.trans g1) | exact H16.out _ (((Fr.refl _ _).drew.trans g1).trans g2) | exact H16.out _ ((((Fr.refl _ _).drew.trans g1).trans g2).trans g3))
        (first
          | (go_at_call 23; refine (HMN.out _ (KF.out.trans (Fr.refl _ _).drew)).mono ?_; rintro e6 w6 ⟨gm, cm, sm, scm, rfl, hrm, ham, g1⟩)
          | (go_at_call 22; refine (HSM.out _ (KF.out.trans ((Fr.refl _ _).drew.trans g1)) held taken gm 0 cm sm scm hrm ham).mono ?_; rintro e7 w7 ⟨rfl, g2⟩)
          | (go_at_call 11; refine (awake_any _ (HG0.out.no (KF.out.trans ((((Fr.refl _ _).drew.trans g1).trans g2))))).mono ?_; rintro e8 w8 ⟨rfl, g3⟩))
      all_goals
        go_wp2
        go_ret
        exact ⟨rfl, KF.out.trans ((((Fr.refl _ _).drew.trans g1).trans g2).trans g3)⟩
theorem walk_fieldsMeans (w : World) (hG : GM w) {v0 v1 v2 : Value} (k n : Int) (A B : List UInt8) (h : IsPar w v0 k n A B) (ss : List Strm) (hs : IsStrs w v1 ss) (cuts : List Int) (hc : IsInts w v2 cuts) : Calls Tryd.prog 6 #[v0, v1, v2] w (TruePost w) := by
  obtain ⟨aA, cA, aB, cB, rfl, _, hn, hA, hB, _⟩ := h
  obtain ⟨ai, ci, rfl, hat, hss⟩ := hs
  obtain ⟨ca, cc, rfl, hca⟩ := hc
  exact core_means w hG k n aA aB A B cA cB ai ci ss ca cc cuts hn.2 hA hB hat hss hca
end Go.Proofs.YtjnebkoohimgjaaDoor
