/- HeadChunks, walked. -/
import Derived.Test.YtjnebkoohimgjaaDoorFdIf
import Derived.Test.YtjnebkoohimgjaaDoorFdLaw
import Derived.Test.YtjnebkoohimgjaaDoorLiftP
import Derived.Test.YtjnebkoohimgjaaDoorLiftS
namespace Go.Proofs.YtjnebkoohimgjaaDoor
open Go.RowKit

theorem eq_outs (W : World) (o : List UInt8) : (Op.equalIn 10000 42 (.agg #[sv o, sv [], sv [], sv []]) (.agg #[sv o, sv [], sv [], sv []])).run Tryd.prog W = .ok true W := by
  obtain ⟨i, hi, _⟩ := info_parts Tryd.info9
  have h := run_equalIn_array W 9999 #[sv o, sv [], sv [], sv []] #[sv o, sv [], sv [], sv []] Tryd.underlying42 hi
  refine h.trans ?_
  rw [show Tryd.prog.cellsOf 9 = 1 from by kernel_rfl, show List.range 4 = [0, 1, 2, 3] from rfl]
  simp [Op.eqItems, go_sem, Tryd.underlying9]
set_option maxHeartbeats 4000000 in
set_option maxRecDepth 100000 in
theorem core_chunks (w : World) (hG : GM w) (k n : Int) (aA aB : Option Addr) (A B : List UInt8) (cA cB : Nat) (ai : Option Addr) (ci : Nat) (ss : List Strm) (ca : Option Addr) (cc : Nat) (cuts : List Int) (cb : Option Addr) (cd : Nat) (cuts2 : List Int) (hn : n ≤ 9223372036854775807)
    (hA : At w aA (A.map bv)) (hB : At w aB (B.map bv)) (hs : At w ai (scells ss)) (hss : ∀ s ∈ ss, At w s.a (s.b.map bv) ∧ s.b.length ≤ s.c) (hc : At w ca (cuts.map iv)) (hd : At w cb (cuts2.map iv)) :
    Calls Tryd.prog 8 #[.agg #[.int .i64 k, .int .i64 n, .slice aA A.length cA, .slice aB B.length cB], .slice ai ss.length ci, .slice ca cuts.length cc, .slice cb cuts2.length cd] w (TruePost w) := by
  have HG0 := Lib.hid hG; clear hG
  have HA := Lib.hid hA; have HB := Lib.hid hB; have HS := Lib.hid hs; have HSS := Lib.hid hss; have HC := Lib.hid hc; have HD := Lib.hid hd
  clear hA hB hs hss hc hd
  cases hh : heavyB A B ss [(ca, cuts.length, cc), (cb, cuts2.length, cd)] with
  | true =>
    have HH := Lib.hid hh; clear hh
    go_enter Tryd.func8, Tryd.ntmps8
    go_wp2_with (first
      | (go_at_call 9; refine (heavy_any k n aA aB ai (some ⟨w.heap.size + 1, 0, none⟩) A B cA cB ci 2 ss [(ca, cuts.length, cc), (cb, cuts2.length, cd)] _ (at_no HS.out (((Fr.refl No w).alloc _).alloc _)) (fun _ => ⟨w.heap.size + 1, 0, rfl, row_at _ #[.slice ca cuts.length cc, .slice cb cuts2.length cd] _ rfl _ (by simp) 28 (0, 0)⟩) (by simp)).mono ?_; rw [HH.out]; rintro e1 w1 ⟨rfl, hf1⟩)
      | (go_at_call 11; refine (awake_any _ (HG0.out.no (((((Fr.refl No w).alloc _).alloc _).trans hf1)))).mono ?_; rintro e9 w9 ⟨rfl, hf9⟩))
    go_ret
    exact ⟨rfl, ((((Fr.refl No w).alloc _).alloc _).trans hf1).trans hf9⟩
  | false =>
    have HH := Lib.hid hh
    simp only [heavyB, decide_eq_false_iff_not, not_or] at hh
    obtain ⟨hA1, hB1, _, hs2, hc3⟩ := hh
    have hlA : A.length ≤ 100000000 := by omega
    have hlB : B.length ≤ 100000000 := by omega
    cases hf : fitB 7 k n A B ss.length with
    | false =>
      have HFI := Lib.hid hf; clear hf hs2 hc3
      go_enter Tryd.func8, Tryd.ntmps8
      go_wp2_with (first
        | (go_at_call 9; refine (heavy_any k n aA aB ai (some ⟨w.heap.size + 1, 0, none⟩) A B cA cB ci 2 ss [(ca, cuts.length, cc), (cb, cuts2.length, cd)] _ (at_no HS.out (((Fr.refl No w).alloc _).alloc _)) (fun _ => ⟨w.heap.size + 1, 0, rfl, row_at _ #[.slice ca cuts.length cc, .slice cb cuts2.length cd] _ rfl _ (by simp) 28 (0, 0)⟩) (by simp)).mono ?_; rw [HH.out]; rintro e1 w1 ⟨rfl, hf1⟩
           have KF : Fr No w w1 := (((Fr.refl No w).alloc _).alloc _).trans hf1
           have HK := Lib.hid KF
           obtain ⟨b1, z1⟩ := box_at (((Fr.refl No _).alloc _).trans hf1)
           have b10 := b1 0; have b11 := b1 1; have b12 := b1 2; have b13 := b1 3; clear KF hf1 b1)
        | (go_at_call 10; refine (fit_any k n aA aB ai A B cA cB ss.length ci _ (at_no HA.out HK.out) hlA hlB).mono ?_; rw [HFI.out]; rintro e2 w2 ⟨rfl, hf2⟩)
        | (go_at_call 11; refine (awake_any _ (HG0.out.no ((HK.out.trans hf2)))).mono ?_; rintro e9 w9 ⟨rfl, hf9⟩))
      go_ret
      exact ⟨rfl, (HK.out.trans hf2).trans hf9⟩
    | true =>
      obtain ⟨rfl, hl1, hck, hfk⟩ := fit_says k n A B ss.length hn hf
      obtain ⟨s, rfl⟩ : ∃ s, ss = [s] := by
        match ss, hl1 with
        | [s], _ => exact ⟨s, rfl⟩
      obtain ⟨hsb, hsc⟩ := HSS.out s (by simp)
      have hb2 : ¬ 2000 < s.b.length := fun h => hs2 ⟨s, by simp, h⟩
      have hcl : ¬ 3000 < cuts.length := fun h => hc3 ⟨(ca, cuts.length, cc), by simp, h⟩
      have hdl : ¬ 3000 < cuts2.length := fun h => hc3 ⟨(cb, cuts2.length, cd), by simp, h⟩
      obtain ⟨ig, ioff, rfl, hrow⟩ := HS.out (by simp [scells, Strm.cells])
      have hig := hrow.lt (by simp [scells, Strm.cells])
      have HROW : Hid (Row w ig ioff (strmC s.a s.b s.c s.ended s.ec s.es s.ei)) := Lib.hid (by simpa [scells, Strm.cells, strmC] using hrow)
      have HSB := Lib.hid hsb
      have HFI := Lib.hid hf; clear hf hs2 hc3 hsb hrow
      have HCK := Lib.hid hck; have HFK := Lib.hid hfk; clear hck hfk
      have heq := eq_outs
      go_enter Tryd.func8, Tryd.ntmps8
      go_wp2_with (first
        | (go_at_call 9; refine (heavy_any 7 n aA aB (some ⟨ig, ioff, none⟩) (some ⟨w.heap.size + 1, 0, none⟩) A B cA cB ci 2 [s] [(ca, cuts.length, cc), (cb, cuts2.length, cd)] _ (at_no HS.out (((Fr.refl No w).alloc _).alloc _)) (fun _ => ⟨w.heap.size + 1, 0, rfl, row_at _ #[.slice ca cuts.length cc, .slice cb cuts2.length cd] _ rfl _ (by simp) 28 (0, 0)⟩) (by simp)).mono ?_; rw [HH.out]; rintro e1 w1 ⟨rfl, hf1⟩
           have KF : Fr No w w1 := (((Fr.refl No w).alloc _).alloc _).trans hf1
           have HK := Lib.hid KF
           obtain ⟨b1, z1⟩ := box_at (((Fr.refl No _).alloc _).trans hf1)
           have b10 := b1 0; have b11 := b1 1; have b12 := b1 2; have b13 := b1 3; clear KF hf1 b1)
        | (go_at_call 10; refine (fit_any 7 n aA aB (some ⟨ig, ioff, none⟩) A B cA cB 1 ci _ (at_no HA.out HK.out) hlA hlB).mono ?_; rw [show fitB 7 7 n A B 1 = true from HFI.out]; rintro e2 w2 ⟨rfl, hf2⟩
           have HF2 := Lib.hid hf2
           have c20 := (hf2.at.1 w.heap.size 0 z1).trans b10; have c21 := (hf2.at.1 w.heap.size 1 z1).trans b11; have c22 := (hf2.at.1 w.heap.size 2 z1).trans b12; have c23 := (hf2.at.1 w.heap.size 3 z1).trans b13; have z2 := Nat.lt_of_lt_of_le z1 hf2.size; clear hf2)
        | (go_at_call 13; refine (newM_yes n aA aB A B cA cB _ (at_no HA.out ((HK.out.trans HF2.out).trans HF3.out)) (at_no HB.out ((HK.out.trans HF2.out).trans HF3.out)) hlA hlB HFK.out (HG0.out.no (((HK.out.trans HF2.out).trans HF3.out)))).mono ?_; rintro e4 w4 ⟨g', F2, rfl, hg', hr4, hf4⟩
           have HR4 := Lib.hid hr4; have HF4 := Lib.hid hf4; clear hr4 hf4)
        | (go_at_call 13; refine (newM_yes n aA aB A B cA cB _ (at_no HA.out (HK.out.trans HF2.out)) (at_no HB.out (HK.out.trans HF2.out)) hlA hlB HFK.out (HG0.out.no ((HK.out.trans HF2.out)))).mono ?_; rintro e3 w3 ⟨g, F, rfl, hg, hr3, hf3⟩
           have HR3 := Lib.hid hr3; have HF3 := Lib.hid hf3
           have c30 := (hf3.at.1 w.heap.size 0 z2).trans c20; have c31 := (hf3.at.1 w.heap.size 1 z2).trans c21; have c32 := (hf3.at.1 w.heap.size 2 z2).trans c22; have c33 := (hf3.at.1 w.heap.size 3 z2).trans c23; have z3 := Nat.lt_of_lt_of_le z2 hf3.size; clear hr3 hf3)
        | (go_at_call 14; refine (drive_M g' n A B HCK.out ig ioff ci s.a s.c s.b s.ended s.ec s.es s.ei cb cd cuts2 F2 _ (HR6.out)
              (HROW.out.fr (HW5.out) (fun _ _ x => x)) (fun e => by have := HK.out.size; have := HF2.out.size; have := HF3.out.size; have := HG2.out _ e; omega)
              (at_no HSB.out (HW5.out)) (fun h0 x off e hF => by obtain ⟨x', o', e', hr⟩ := HSB.out (by simpa using h0); rw [e'] at e; injection e with e; injection e with e; subst e; have h1 := hr.lt (by simpa using h0); have h2 := HK.out.size; have h3 := HF2.out.size; have h4 := HF3.out.size; have h5 := HG2.out _ hF; omega) (by omega) hsc
              (at_no HD.out (HW5.out)) (fun h0 x off e hF => by obtain ⟨x', o', e', hr⟩ := HD.out (by simpa using h0); rw [e'] at e; injection e with e; injection e with e; subst e; have h1 := hr.lt (by simpa using h0); have h2 := HK.out.size; have h3 := HF2.out.size; have h4 := HF3.out.size; have h5 := HG2.out _ hF; omega) (by omega)).mono ?_
           rintro e7 w7 ⟨held', taken', s'', F4, rfl, h0', h64', hr7, hf7, _⟩
           generalize saysM n A B s.b s.ended = r at *
           dsimp only [gotC]
           have HF7 := Lib.hid hf7; clear hr7 hf7)
        | (go_at_call 14; refine (drive_M g n A B HCK.out ig ioff ci s.a s.c s.b s.ended s.ec s.es s.ei ca cc cuts F _ ((machM g n A B HCK.out).fr HR3.out HF4.out (fun _ _ _ x => x) (fun _ _ _ x => x))
              (HROW.out.fr (((HK.out.trans HF2.out).trans HF3.out).trans HF4.out) (fun _ _ x => x)) (fun e => by have := HK.out.size; have := HF2.out.size; have := HF3.out.size; have := hg _ e; omega)
              (at_no HSB.out (((HK.out.trans HF2.out).trans HF3.out).trans HF4.out)) (fun h0 x off e hF => by obtain ⟨x', o', e', hr⟩ := HSB.out (by simpa using h0); rw [e'] at e; injection e with e; injection e with e; subst e; have h1 := hr.lt (by simpa using h0); have h2 := HK.out.size; have h3 := HF2.out.size; have h4 := HF3.out.size; have h5 := hg _ hF; omega) (by omega) hsc
              (at_no HC.out (((HK.out.trans HF2.out).trans HF3.out).trans HF4.out)) (fun h0 x off e hF => by obtain ⟨x', o', e', hr⟩ := HC.out (by simpa using h0); rw [e'] at e; injection e with e; injection e with e; subst e; have h1 := hr.lt (by simpa using h0); have h2 := HK.out.size; have h3 := HF2.out.size; have h4 := HF3.out.size; have h5 := hg _ hF; omega) (by omega)).mono ?_
           rintro e5 w5 ⟨held, taken, s', F3, rfl, h0, h64, hr5, hf5, _⟩
           have hgl := (machM g n A B HCK.out).lt HR3.out
           have hw5 : Fr No w w5 := ((((HK.out.trans HF2.out).trans HF3.out).trans HF4.out).step hf5 (fun b o hb e => by have := HK.out.size; have := HF2.out.size; have := hg b e; omega))
           have HW5 := Lib.hid hw5
           have hr6 := (machM g' n A B HCK.out).fr HR4.out hf5 (fun b o hb e => by have h1 := hgl b e; have h2 := hg' b hb; omega) (fun b o hb e => by have h1 := hg b e; have h2 := methM_lt _ hb; have h3 := HG0.out.lt; have h4 := HK.out.size; have h5 := HF2.out.size; omega)
           have HR6 := Lib.hid hr6; have HG2 := Lib.hid hg'; have HG1 := Lib.hid hg; clear hr5 hf5 hw5 hr6 hgl)
        | (go_at_call 11; refine (awake_any _ (HG0.out.no ((((HW5.out.step HF7.out (fun b o hb e => by have := HG2.out b e; omega)).alloc _).alloc _)))).mono ?_; rintro e9 w9 ⟨rfl, hf9⟩))
      go_ret
      have h2 := HK.out.size
      have h3 := HF2.out.size
      have h4 := HF3.out.size
      exact ⟨rfl, (((HW5.out.step HF7.out (fun b o hb e => by have := HG2.out b e; omega)).alloc _).alloc _).trans hf9⟩
theorem walk_fieldsChunks (w : World) (hG : GM w) {v0 v1 v2 v3 : Value} (k n : Int) (A B : List UInt8) (h : IsPar w v0 k n A B) (ss : List Strm) (hs : IsStrs w v1 ss) (cuts : List Int) (hc : IsInts w v2 cuts) (cuts2 : List Int) (hd : IsInts w v3 cuts2) : Calls Tryd.prog 8 #[v0, v1, v2, v3] w (TruePost w) := by
  obtain ⟨aA, cA, aB, cB, rfl, _, hn, hA, hB, _⟩ := h
  obtain ⟨ai, ci, rfl, hat, hss⟩ := hs
  obtain ⟨ca, cc, rfl, hca⟩ := hc
  obtain ⟨cb, cd, rfl, hcb⟩ := hd
  exact core_chunks w hG k n aA aB A B cA cB ai ci ss ca cc cuts cb cd cuts2 hn.2 hA hB hat hss hca hcb
end Go.Proofs.YtjnebkoohimgjaaDoor
