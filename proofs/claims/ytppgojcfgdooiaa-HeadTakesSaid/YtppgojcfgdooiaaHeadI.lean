/- HeadMeans, walked. -/
import Derived.Test.YtppgojcfgdooiaaHeadC
import Derived.Test.YtppgojcfgdooiaaHeadS
import Derived.Test.YtppgojcfgdooiaaSame
import Derived.Test.YtppgojcfgdooiaaCopyP
import Derived.Test.YtppgojcfgdooiaaLaw
import Derived.Test.YtppgojcfgdooiaaLiftP
import Derived.Test.YtppgojcfgdooiaaLiftS
import Derived.Deep.RegionHeld3
namespace Go.Proofs.Ytppgojcfgdooiaa
open Go.RowKit

theorem same_head (n : Int) (b : List UInt8) (ended : Bool) (ec es ei held taken : Int) (ig ioff ci g off c : Nat) (sa : Option Addr) (sc : Nat) (ia : Option Addr) (ic : Nat) (w : World) (hin : Row w ig ioff (strmC ia b ic ended ec es ei))
    (hw : Row w g off (strmC sa (joinM ((rlines b ended).take n.toNat)) sc (meansAll n b ended) (if meansAll n b ended then (0, 0, 0) else rdErr b ended (ec, es, ei)).1 (if meansAll n b ended then (0, 0, 0) else rdErr b ended (ec, es, ei)).2.1 (if meansAll n b ended then (0, 0, 0) else rdErr b ended (ec, es, ei)).2.2))
    (hs : At w sa ((joinM ((rlines b ended).take n.toNat)).map bv)) :
    Calls Try.prog 18 #[.agg (gotC (headR n b ended).1 (headR n b ended).2.1 (headR n b ended).2.2 held taken), .slice (some ⟨ig, ioff, none⟩) 1 ci, .slice (some ⟨g, off, none⟩) 1 c] w (SamePost w) := by
  by_cases h1 : n.toNat ≤ (rlines b ended).length ∨ (rlong b = false ∧ ended = true)
  · have hm : meansAll n b ended = true := by
      unfold meansAll rdAll
      rcases h1 with h | ⟨h, h'⟩
      · rw [Bool.or_eq_true]; exact .inr (by simp; omega)
      · rw [h, h']; rfl
    have hr : headR n b ended = (joinM ((rlines b ended).take n.toNat), -1, 0) := by unfold headR; rw [if_pos h1]
    rw [hm] at hw
    rw [hr]
    exact same_ended _ held taken ig ioff ci g off c sa sc 0 0 0 w hw hs
  · have hm : meansAll n b ended = false := by
      unfold meansAll rdAll
      rw [Bool.or_eq_false_iff]
      refine ⟨?_, by simp; omega⟩
      cases h2 : rlong b with
      | true => rfl
      | false =>
        cases h3 : ended with
        | false => rfl
        | true => exact absurd (.inr ⟨h2, h3⟩) h1
    rw [hm] at hw
    by_cases h2 : rlong b = true
    · have hr : headR n b ended = (joinM ((rlines b ended).take n.toNat), -1, 20) := by unfold headR; rw [if_neg h1, if_pos h2]
      have he : rdErr b ended (ec, es, ei) = (20, -1, 0) := by unfold rdErr; rw [if_pos h2]
      rw [he] at hw
      rw [hr]
      exact same_failed _ held taken ig ioff ci g off c sa sc (-1) 0 w hw hs
    · have h3 : ended = false := by
        cases h3 : ended with
        | false => rfl
        | true => exact absurd (.inr ⟨by simpa using h2, h3⟩) h1
      subst h3
      have hr : headR n b false = (joinM ((rlines b false).take n.toNat), 0, 0) := by unfold headR; rw [if_neg h1, if_neg h2]
      have he : rdErr b false (ec, es, ei) = (ec, es, ei) := by unfold rdErr; rw [if_neg h2]; rfl
      rw [he] at hw
      rw [hr]
      exact same_waits _ held taken ig ioff ci g off c sa sc ec es ei w hw hs ia b ic hin
set_option maxHeartbeats 4000000 in
set_option maxRecDepth 100000 in
theorem core_means (w : World) (k n : Int) (aA aB : Option Addr) (A B : List UInt8) (cA cB : Nat) (ai : Option Addr) (ci : Nat) (ss : List Strm) (ca : Option Addr) (cc : Nat) (cuts : List Int) (hn : n ≤ 9223372036854775807)
    (hA : At w aA (A.map bv)) (hB : At w aB (B.map bv)) (hs : At w ai (scells ss)) (hss : ∀ s ∈ ss, At w s.a (s.b.map bv) ∧ s.b.length ≤ s.c) (hc : At w ca (cuts.map iv)) :
    Calls Try.prog 4 #[.agg #[.int .i64 k, .int .i64 n, .slice aA A.length cA, .slice aB B.length cB], .slice ai ss.length ci, .slice ca cuts.length cc] w (TruePost w) := by
  have HA := Lib.hid hA; have HB := Lib.hid hB; have HS := Lib.hid hs; have HSS := Lib.hid hss; have HC := Lib.hid hc
  clear hA hB hs hss hc
  cases hh : heavyB A B ss [(ca, cuts.length, cc)] with
  | true =>
    have HH := Lib.hid hh; clear hh
    go_enter Try.func4, Try.ntmps4
    go_wp2_with (first
      | (go_at_call 10; refine (heavy_any k n aA aB ai (some ⟨w.heap.size + 1, 0, none⟩) A B cA cB ci 1 ss [(ca, cuts.length, cc)] _ (at_no HS.out (((Fr.refl No w).alloc _).alloc _)) (fun _ => ⟨w.heap.size + 1, 0, rfl, row_at _ #[.slice ca cuts.length cc] _ rfl _ (by simp) 37 (0, 0)⟩) (by simp)).mono ?_; rw [HH.out]; rintro e1 w1 ⟨rfl, hf1⟩)
      | (go_at_call 11; refine (awake_any _).mono ?_; rintro e9 w9 ⟨rfl, hf9⟩))
    go_ret
    exact ⟨rfl, ((((Fr.refl No w).alloc _).alloc _).trans hf1).trans hf9⟩
  | false =>
    have HH := Lib.hid hh
    simp only [heavyB, decide_eq_false_iff_not, not_or] at hh
    obtain ⟨hA1, hB1, _, hs2, hc3⟩ := hh
    have hlA : A.length ≤ 100000000 := by omega
    have hlB : B.length ≤ 100000000 := by omega
    cases hf : fitB 3 k n A B ss.length with
    | false =>
      have HFI := Lib.hid hf; clear hf hs2 hc3
      go_enter Try.func4, Try.ntmps4
      go_wp2_with (first
        | (go_at_call 10; refine (heavy_any k n aA aB ai (some ⟨w.heap.size + 1, 0, none⟩) A B cA cB ci 1 ss [(ca, cuts.length, cc)] _ (at_no HS.out (((Fr.refl No w).alloc _).alloc _)) (fun _ => ⟨w.heap.size + 1, 0, rfl, row_at _ #[.slice ca cuts.length cc] _ rfl _ (by simp) 37 (0, 0)⟩) (by simp)).mono ?_; rw [HH.out]; rintro e1 w1 ⟨rfl, hf1⟩
           have KF : Fr No w w1 := (((Fr.refl No w).alloc _).alloc _).trans hf1
           have HK := Lib.hid KF
           obtain ⟨b1, z1⟩ := box_at (((Fr.refl No _).alloc _).trans hf1)
           have b10 := b1 0; have b11 := b1 1; have b12 := b1 2; have b13 := b1 3; clear KF hf1 b1)
        | (go_at_call 16; refine (fit_any k n aA aB ai A B cA cB ss.length ci _ (at_no HA.out HK.out) hlA hlB).mono ?_; rw [HFI.out]; rintro e2 w2 ⟨rfl, hf2⟩)
        | (go_at_call 11; refine (awake_any _).mono ?_; rintro e9 w9 ⟨rfl, hf9⟩))
      go_ret
      exact ⟨rfl, (HK.out.trans hf2).trans hf9⟩
    | true =>
      obtain ⟨rfl, hl1, hck, hfk, hn0, hn1⟩ := fit_says k n A B ss.length hn hf
      obtain ⟨s, rfl⟩ : ∃ s, ss = [s] := by
        match ss, hl1 with
        | [s], _ => exact ⟨s, rfl⟩
      obtain ⟨hsb, hsc⟩ := HSS.out s (by simp)
      have hb2 : ¬ 2000 < s.b.length := fun h => hs2 ⟨s, by simp, h⟩
      have hcl : ¬ 3000 < cuts.length := fun h => hc3 ⟨(ca, cuts.length, cc), by simp, h⟩
      obtain ⟨ig, ioff, rfl, hrow⟩ := HS.out (by simp [scells, Strm.cells])
      have hig := hrow.lt (by simp [scells, Strm.cells])
      have HROW : Hid (Row w ig ioff (strmC s.a s.b s.c s.ended s.ec s.es s.ei)) := Lib.hid (by simpa [scells, Strm.cells, strmC] using hrow)
      have HSB := Lib.hid hsb
      have HFI := Lib.hid hf; clear hf hs2 hc3 hsb hrow
      have HCK := Lib.hid hck; have HFK := Lib.hid hfk; clear hck hfk
      have hfh := found_head n s.b s.ended hn0 hn1
      have HSM := Lib.hid (fun (W : World) (hW : Fr No w W) (held taken : Int) (g off c : Nat) (sa : Option Addr) (sc : Nat) hw hsa => same_head n s.b s.ended s.ec s.es s.ei held taken ig ioff ci g off c sa sc s.a s.c W (HROW.out.fr hW (fun _ _ x => x)) hw hsa)
      have HMN := Lib.hid (fun (W : World) (hW : Fr No w W) => means_any 3 n aA aB A.length B.length cA cB ig ioff ci s W hn0 hn1 (HROW.out.fr hW (fun _ _ x => x)) (at_no HSB.out hW) (by omega) hsc)
      generalize headR n s.b s.ended = r at *
      go_enter Try.func4, Try.ntmps4
      go_wp2_with (first
        | (go_at_call 10; refine (heavy_any 3 n aA aB (some ⟨ig, ioff, none⟩) (some ⟨w.heap.size + 1, 0, none⟩) A B cA cB ci 1 [s] [(ca, cuts.length, cc)] _ (at_no HS.out (((Fr.refl No w).alloc _).alloc _)) (fun _ => ⟨w.heap.size + 1, 0, rfl, row_at _ #[.slice ca cuts.length cc] _ rfl _ (by simp) 37 (0, 0)⟩) (by simp)).mono ?_; rw [HH.out]; rintro e1 w1 ⟨rfl, hf1⟩
           have KF : Fr No w w1 := (((Fr.refl No w).alloc _).alloc _).trans hf1
           have HK := Lib.hid KF
           obtain ⟨b1, z1⟩ := box_at (((Fr.refl No _).alloc _).trans hf1)
           have b10 := b1 0; have b11 := b1 1; have b12 := b1 2; have b13 := b1 3
           have HBX := Lib.hid b1; clear KF hf1 b1)
        | (go_at_call 16; refine (fit_any 3 n aA aB (some ⟨ig, ioff, none⟩) A B cA cB 1 ci _ (at_no HA.out HK.out) hlA hlB).mono ?_; rw [show fitB 3 3 n A B 1 = true from HFI.out]; rintro e2 w2 ⟨rfl, hf2⟩
           have HF2 := Lib.hid hf2
           have c20 := (hf2.at.1 w.heap.size 0 z1).trans b10; have c21 := (hf2.at.1 w.heap.size 1 z1).trans b11; have c22 := (hf2.at.1 w.heap.size 2 z1).trans b12; have c23 := (hf2.at.1 w.heap.size 3 z1).trans b13; have z2 := Nat.lt_of_lt_of_le z1 hf2.size; clear hf2)
        | (go_at_call 13; refine (copy_any 3 n aA aB A B cA cB _ (at_no HA.out (HK.out.trans HF2.out)) (at_no HB.out (HK.out.trans HF2.out)) hlA hlB).mono ?_; rintro e3 w3 ⟨a', c', b', d', rfl, ha', hb', hf3⟩
           have HA' := Lib.hid ha'; have HF3 := Lib.hid hf3
           have c30 := (hf3.at.1 w.heap.size 0 z2).trans c20; have c31 := (hf3.at.1 w.heap.size 1 z2).trans c21; have c32 := (hf3.at.1 w.heap.size 2 z2).trans c22; have c33 := (hf3.at.1 w.heap.size 3 z2).trans c23; have z3 := Nat.lt_of_lt_of_le z2 hf3.size; clear hf3 ha' hb')
        | (go_at_call 14; refine (head_yes n a' b' A B c' d' _ HA'.out hlA hlB HFK.out).mono ?_; rintro e4 w4 ⟨g, rfl, hg, hr4, hf4⟩
           have HR4 := Lib.hid hr4; have HF4 := Lib.hid hf4
           have c40 := (hf4.at.1 w.heap.size 0 z3).trans c30; have c41 := (hf4.at.1 w.heap.size 1 z3).trans c31; have c42 := (hf4.at.1 w.heap.size 2 z3).trans c32; have c43 := (hf4.at.1 w.heap.size 3 z3).trans c33; have z4 := Nat.lt_of_lt_of_le z3 hf4.size; clear hr4 hf4)
        | (go_at_call 17; refine (drive_lines (head_ok g) head_each (head_meth g) (decide (n = 0)) n ig ioff ci s.a s.c s.b s.ended s.ec s.es s.ei ca cc cuts _ HR4.out
              (HROW.out.fr (((HK.out.trans HF2.out).trans HF3.out).trans HF4.out) (fun _ _ x => x)) (by have := HK.out.size; have := HF2.out.size; have := HF3.out.size; omega)
              (at_no HSB.out (((HK.out.trans HF2.out).trans HF3.out).trans HF4.out)) (fun h0 x off e => by obtain ⟨x', o', e', hr⟩ := HSB.out (by simpa using h0); rw [e'] at e; injection e with e; injection e with e; subst e; have h1 := hr.lt (by simpa using h0); have h2 := HK.out.size; have h3 := HF2.out.size; have h4 := HF3.out.size; omega) (by omega) hsc
              (at_no HC.out (((HK.out.trans HF2.out).trans HF3.out).trans HF4.out)) (fun h0 x off e => by obtain ⟨x', o', e', hr⟩ := HC.out (by simpa using h0); rw [e'] at e; injection e with e; injection e with e; subst e; have h1 := hr.lt (by simpa using h0); have h2 := HK.out.size; have h3 := HF2.out.size; have h4 := HF3.out.size; omega) (by omega)).mono ?_
           rw [hfh]
           rintro e5 w5 ⟨held, taken, s', rfl, h0, h64, hr5, hf5⟩
           dsimp only [gotC]
           have HW5 := Lib.hid (show Fr No w w5 from ((((HK.out.trans HF2.out).trans HF3.out).trans HF4.out).step hf5 (fun b o hb e => by have h2 := HK.out.size; have h3 := HF2.out.size; have h4 := HF3.out.size; omega)))
           have hgn : w.heap.size ≠ g := by have h3 := HF2.out.size; have h4 := HF3.out.size; omega
           have c50 := (hf5.cell w.heap.size 0 z4 (fun e => hgn e)).trans c40; have c51 := (hf5.cell w.heap.size 1 z4 (fun e => hgn e)).trans c41; have c52 := (hf5.cell w.heap.size 2 z4 (fun e => hgn e)).trans c42; have c53 := (hf5.cell w.heap.size 3 z4 (fun e => hgn e)).trans c43
           have z5 := Nat.lt_of_lt_of_le z4 hf5.size
           clear hr5 hf5))
      have H16 := Lib.hid (fun (W : World) (f : Fr No (w5.alloc (.cells (gotC r.1 r.2.1 r.2.2 held taken) 42)) W) => (show W.cell? ⟨w.heap.size, 0, none⟩ = some (.int .i64 3) ∧ W.cell? ⟨w.heap.size, 1, none⟩ = some (.int .i64 n) ∧ W.cell? ⟨w.heap.size, 2, none⟩ = some (.slice aA A.length cA) ∧ W.cell? ⟨w.heap.size, 3, none⟩ = some (.slice aB B.length cB) ∧ W.cell? ⟨w5.heap.size, 0, none⟩ = some (sv r.1) ∧ W.cell? ⟨w5.heap.size, 1, none⟩ = some (sv []) ∧ W.cell? ⟨w5.heap.size, 2, none⟩ = some (sv []) ∧ W.cell? ⟨w5.heap.size, 3, none⟩ = some (sv []) ∧ W.cell? ⟨w5.heap.size, 4, none⟩ = some (.int .i64 r.2.1) ∧ W.cell? ⟨w5.heap.size, 5, none⟩ = some (.int .i64 r.2.2) ∧ W.cell? ⟨w5.heap.size, 6, none⟩ = some (.int .i64 held) ∧ W.cell? ⟨w5.heap.size, 7, none⟩ = some (.int .i64 taken) ∧ W.cell? ⟨w5.heap.size, 8, none⟩ = some (.int .i64 0) ∧ W.cell? ⟨w5.heap.size, 9, none⟩ = some (.int .i64 0) ∧ W.cell? ⟨w5.heap.size, 10, none⟩ = some (.int .i64 0) ∧ W.cell? ⟨w5.heap.size, 11, none⟩ = some (.bool false) from
        have x1 := (((Fr.refl No w5).alloc _).trans f).at.1 w.heap.size
        have x2 := (box_at f).1
        ⟨(x1 0 z5).trans c50, (x1 1 z5).trans c51, (x1 2 z5).trans c52, (x1 3 z5).trans c53, x2 0, x2 1, x2 2, x2 3, x2 4, x2 5, x2 6, x2 7, x2 8, x2 9, x2 10, x2 11⟩))
      have KF := Lib.hid (HW5.out.alloc (.cells (gotC r.1 r.2.1 r.2.2 held taken) 42))
      go_region_held3 (fun W => W.cell? ⟨w.heap.size, 0, none⟩ = some (.int .i64 3) ∧ W.cell? ⟨w.heap.size, 1, none⟩ = some (.int .i64 n) ∧ W.cell? ⟨w.heap.size, 2, none⟩ = some (.slice aA A.length cA) ∧ W.cell? ⟨w.heap.size, 3, none⟩ = some (.slice aB B.length cB) ∧ W.cell? ⟨w5.heap.size, 0, none⟩ = some (sv r.1) ∧ W.cell? ⟨w5.heap.size, 1, none⟩ = some (sv []) ∧ W.cell? ⟨w5.heap.size, 2, none⟩ = some (sv []) ∧ W.cell? ⟨w5.heap.size, 3, none⟩ = some (sv []) ∧ W.cell? ⟨w5.heap.size, 4, none⟩ = some (.int .i64 r.2.1) ∧ W.cell? ⟨w5.heap.size, 5, none⟩ = some (.int .i64 r.2.2) ∧ W.cell? ⟨w5.heap.size, 6, none⟩ = some (.int .i64 held) ∧ W.cell? ⟨w5.heap.size, 7, none⟩ = some (.int .i64 taken) ∧ W.cell? ⟨w5.heap.size, 8, none⟩ = some (.int .i64 0) ∧ W.cell? ⟨w5.heap.size, 9, none⟩ = some (.int .i64 0) ∧ W.cell? ⟨w5.heap.size, 10, none⟩ = some (.int .i64 0) ∧ W.cell? ⟨w5.heap.size, 11, none⟩ = some (.bool false))
        (first | exact H16.out _ (Fr.refl _ _).drew | exact H16.out _ ((Fr.refl _ _).drew.trans g1) | exact H16.out _ (((Fr.refl _ _).drew.trans g1).trans g2) | exact H16.out _ ((((Fr.refl _ _).drew.trans g1).trans g2).trans g3))
        (first
          | (go_at_call 19; refine (HMN.out _ (KF.out.trans (Fr.refl _ _).drew)).mono ?_; rintro e6 w6 ⟨gm, cm, sm, scm, rfl, hrm, ham, g1⟩)
          | (go_at_call 18; refine (HSM.out _ (KF.out.trans ((Fr.refl _ _).drew.trans g1)) held taken gm 0 cm sm scm hrm ham).mono ?_; rintro e7 w7 ⟨rfl, g2⟩)
          | (go_at_call 11; refine (awake_any _).mono ?_; rintro e8 w8 ⟨rfl, g3⟩))
      all_goals
        go_wp2
        go_ret
        exact ⟨rfl, KF.out.trans ((((Fr.refl _ _).drew.trans g1).trans g2).trans g3)⟩
theorem walk_headMeans (w : World) {v0 v1 v2 : Value} (k n : Int) (A B : List UInt8) (h : IsPar w v0 k n A B) (ss : List Strm) (hs : IsStrs w v1 ss) (cuts : List Int) (hc : IsInts w v2 cuts) : Calls Try.prog 4 #[v0, v1, v2] w (TruePost w) := by
  obtain ⟨aA, cA, aB, cB, rfl, _, hn, hA, hB, _⟩ := h
  obtain ⟨ai, ci, rfl, hat, hss⟩ := hs
  obtain ⟨ca, cc, rfl, hca⟩ := hc
  exact core_means w k n aA aB A B cA cB ai ci ss ca cc cuts hn.2 hA hB hat hss hca
end Go.Proofs.Ytppgojcfgdooiaa
