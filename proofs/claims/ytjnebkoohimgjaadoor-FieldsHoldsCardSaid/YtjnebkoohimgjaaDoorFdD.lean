/- HeadHolds, walked. -/
import Derived.Test.YtjnebkoohimgjaaDoorFdIf
import Derived.Test.YtjnebkoohimgjaaDoorFdLaw
import Derived.Test.YtjnebkoohimgjaaDoorLiftP
import Derived.Test.YtjnebkoohimgjaaDoorLiftS
namespace Go.Proofs.YtjnebkoohimgjaaDoor
open Go.RowKit

set_option maxHeartbeats 4000000 in
set_option maxRecDepth 100000 in
theorem core_holds (w : World) (hG : GM w) (k n : Int) (aA aB : Option Addr) (A B : List UInt8) (cA cB : Nat) (ai : Option Addr) (ci : Nat) (ss : List Strm) (ca : Option Addr) (cc : Nat) (cuts : List Int) (hn : n ≤ 9223372036854775807)
    (hA : At w aA (A.map bv)) (hB : At w aB (B.map bv)) (hs : At w ai (scells ss)) (hss : ∀ s ∈ ss, At w s.a (s.b.map bv) ∧ s.b.length ≤ s.c) (hc : At w ca (cuts.map iv)) :
    Calls Tryd.prog 7 #[.agg #[.int .i64 k, .int .i64 n, .slice aA A.length cA, .slice aB B.length cB], .slice ai ss.length ci, .slice ca cuts.length cc] w (TruePost w) := by
  have HG0 := Lib.hid hG; clear hG
  have HA := Lib.hid hA; have HB := Lib.hid hB; have HS := Lib.hid hs; have HSS := Lib.hid hss; have HC := Lib.hid hc
  clear hA hB hs hss hc
  cases hh : heavyB A B ss [(ca, cuts.length, cc)] with
  | true =>
    have HH := Lib.hid hh; clear hh
    go_enter Tryd.func7, Tryd.ntmps7
    go_wp2_with (first
      | (go_at_call 9; refine (heavy_any k n aA aB ai (some ⟨w.heap.size + 1, 0, none⟩) A B cA cB ci 1 ss [(ca, cuts.length, cc)] _ (at_no HS.out (((Fr.refl No w).alloc _).alloc _)) (fun _ => ⟨w.heap.size + 1, 0, rfl, row_at _ #[.slice ca cuts.length cc] _ rfl _ (by simp) 28 (0, 0)⟩) (by simp)).mono ?_; rw [HH.out]; rintro e1 w1 ⟨rfl, hf1⟩)
      | (go_at_call 11; refine (awake_any _ (HG0.out.no (((((Fr.refl No w).alloc _).alloc _).trans hf1)))).mono ?_; rintro e9 w9 ⟨rfl, hf9⟩))
    go_ret
    exact ⟨rfl, ((((Fr.refl No w).alloc _).alloc _).trans hf1).trans hf9⟩
  | false =>
    have HH := Lib.hid hh
    simp only [heavyB, decide_eq_false_iff_not, not_or] at hh
    obtain ⟨hA1, hB1, _, hs2, hc3⟩ := hh
    have hlA : A.length ≤ 100000000 := by omega
    have hlB : B.length ≤ 100000000 := by omega
    cases hf : fitB 7 k n A B ss.length with
    | false =>
      have HFI := Lib.hid hf; clear hf hs2 hc3
      go_enter Tryd.func7, Tryd.ntmps7
      go_wp2_with (first
        | (go_at_call 9; refine (heavy_any k n aA aB ai (some ⟨w.heap.size + 1, 0, none⟩) A B cA cB ci 1 ss [(ca, cuts.length, cc)] _ (at_no HS.out (((Fr.refl No w).alloc _).alloc _)) (fun _ => ⟨w.heap.size + 1, 0, rfl, row_at _ #[.slice ca cuts.length cc] _ rfl _ (by simp) 28 (0, 0)⟩) (by simp)).mono ?_; rw [HH.out]; rintro e1 w1 ⟨rfl, hf1⟩
           have KF : Fr No w w1 := (((Fr.refl No w).alloc _).alloc _).trans hf1
           have HK := Lib.hid KF
           obtain ⟨b1, z1⟩ := box_at (((Fr.refl No _).alloc _).trans hf1)
           have b10 := b1 0; have b11 := b1 1; have b12 := b1 2; have b13 := b1 3; clear KF hf1 b1)
        | (go_at_call 10; refine (fit_any k n aA aB ai A B cA cB ss.length ci _ (at_no HA.out HK.out) hlA hlB).mono ?_; rw [HFI.out]; rintro e2 w2 ⟨rfl, hf2⟩)
        | (go_at_call 11; refine (awake_any _ (HG0.out.no ((HK.out.trans hf2)))).mono ?_; rintro e9 w9 ⟨rfl, hf9⟩))
      go_ret
      exact ⟨rfl, (HK.out.trans hf2).trans hf9⟩
    | true =>
      obtain ⟨rfl, hl1, hck, hfk⟩ := fit_says k n A B ss.length hn hf
      obtain ⟨s, rfl⟩ : ∃ s, ss = [s] := by
        match ss, hl1 with
        | [s], _ => exact ⟨s, rfl⟩
      obtain ⟨hsb, hsc⟩ := HSS.out s (by simp)
      have hb2 : ¬ 2000 < s.b.length := fun h => hs2 ⟨s, by simp, h⟩
      have hcl : ¬ 3000 < cuts.length := fun h => hc3 ⟨(ca, cuts.length, cc), by simp, h⟩
      obtain ⟨ig, ioff, rfl, hrow⟩ := HS.out (by simp [scells, Strm.cells])
      have hig := hrow.lt (by simp [scells, Strm.cells])
      have HROW : Hid (Row w ig ioff (strmC s.a s.b s.c s.ended s.ec s.es s.ei)) := Lib.hid (by simpa [scells, Strm.cells, strmC] using hrow)
      have HSB := Lib.hid hsb
      have HFI := Lib.hid hf; clear hf hs2 hc3 hsb hrow
      obtain ⟨bd, hbd⟩ : ∃ bd, bd = bndR 7 n A B := ⟨_, rfl⟩
      have HBND := Lib.hid hbd.symm; have HCK := Lib.hid hck; have HFK := Lib.hid hfk; clear hbd hck hfk
      have hmh : ∀ (W : World) (g : Nat), (method 294 72 (.pointer (some ⟨g, 0, none⟩)) "Held").run Tryd.prog W = .ok (112, .pointer (some ⟨g, 0, none⟩)) W := fun W g => (methM_ok g).mH W
      go_enter Tryd.func7, Tryd.ntmps7
      go_wp2_with (first
        | (go_at_call 9; refine (heavy_any 7 n aA aB (some ⟨ig, ioff, none⟩) (some ⟨w.heap.size + 1, 0, none⟩) A B cA cB ci 1 [s] [(ca, cuts.length, cc)] _ (at_no HS.out (((Fr.refl No w).alloc _).alloc _)) (fun _ => ⟨w.heap.size + 1, 0, rfl, row_at _ #[.slice ca cuts.length cc] _ rfl _ (by simp) 28 (0, 0)⟩) (by simp)).mono ?_; rw [HH.out]; rintro e1 w1 ⟨rfl, hf1⟩
           have KF : Fr No w w1 := (((Fr.refl No w).alloc _).alloc _).trans hf1
           have HK := Lib.hid KF
           obtain ⟨b1, z1⟩ := box_at (((Fr.refl No _).alloc _).trans hf1)
           have b10 := b1 0; have b11 := b1 1; have b12 := b1 2; have b13 := b1 3
           have HBX := Lib.hid b1; clear KF hf1 b1)
        | (go_at_call 10; refine (fit_any 7 n aA aB (some ⟨ig, ioff, none⟩) A B cA cB 1 ci _ (at_no HA.out HK.out) hlA hlB).mono ?_; rw [show fitB 7 7 n A B 1 = true from HFI.out]; rintro e2 w2 ⟨rfl, hf2⟩
           have HF2 := Lib.hid hf2
           have c20 := (hf2.at.1 w.heap.size 0 z1).trans b10; have c21 := (hf2.at.1 w.heap.size 1 z1).trans b11; have c22 := (hf2.at.1 w.heap.size 2 z1).trans b12; have c23 := (hf2.at.1 w.heap.size 3 z1).trans b13; have z2 := Nat.lt_of_lt_of_le z1 hf2.size; clear hf2)
        | (go_at_call 13; refine (newM_yes n aA aB A B cA cB _ (at_no HA.out (HK.out.trans HF2.out)) (at_no HB.out (HK.out.trans HF2.out)) hlA hlB HFK.out (HG0.out.no ((HK.out.trans HF2.out)))).mono ?_; rintro e3 w3 ⟨g, F, rfl, hg, hr3, hf3⟩
           have HR3 := Lib.hid hr3; have HF3 := Lib.hid hf3
           have c30 := (hf3.at.1 w.heap.size 0 z2).trans c20; have c31 := (hf3.at.1 w.heap.size 1 z2).trans c21; have c32 := (hf3.at.1 w.heap.size 2 z2).trans c22; have c33 := (hf3.at.1 w.heap.size 3 z2).trans c23; have z3 := Nat.lt_of_lt_of_le z2 hf3.size; clear hr3 hf3)
        | (go_at_call 24; refine (rbound_any 7 n aA aB A B cA cB _ (at_no HA.out ((HK.out.trans HF2.out).trans HF3.out)) hlA hlB).mono ?_; rw [HBND.out, HCK.out]; rintro e4 w4 ⟨rfl, hf4⟩; have HF4 := Lib.hid hf4; clear hf4)
        | (go_at_call 14; refine (drive_M g n A B HCK.out ig ioff ci s.a s.c s.b s.ended s.ec s.es s.ei ca cc cuts F _ ((machM g n A B HCK.out).fr HR3.out HF4.out (fun _ _ _ x => x) (fun _ _ _ x => x))
              (HROW.out.fr (((HK.out.trans HF2.out).trans HF3.out).trans HF4.out) (fun _ _ x => x)) (fun e => by have := HK.out.size; have := HF2.out.size; have := HF3.out.size; have := hg _ e; omega)
              (at_no HSB.out (((HK.out.trans HF2.out).trans HF3.out).trans HF4.out)) (fun h0 x off e hF => by obtain ⟨x', o', e', hr⟩ := HSB.out (by simpa using h0); rw [e'] at e; injection e with e; injection e with e; subst e; have h1 := hr.lt (by simpa using h0); have h2 := HK.out.size; have h3 := HF2.out.size; have h4 := HF3.out.size; have h5 := hg _ hF; omega) (by omega) hsc
              (at_no HC.out (((HK.out.trans HF2.out).trans HF3.out).trans HF4.out)) (fun h0 x off e hF => by obtain ⟨x', o', e', hr⟩ := HC.out (by simpa using h0); rw [e'] at e; injection e with e; injection e with e; subst e; have h1 := hr.lt (by simpa using h0); have h2 := HK.out.size; have h3 := HF2.out.size; have h4 := HF3.out.size; have h5 := hg _ hF; omega) (by omega)).mono ?_
           rintro e5 w5 ⟨held, taken, s', F', rfl, h0, hH, hr5, hf5, HF5g'⟩
           have HF5g : ∀ b, F' b → w.heap.size ≤ b := (fun b hb => by have h2 := HK.out.size; have h3 := HF2.out.size; have h4 := HF3.out.size; have h5 := HF4.out.size; rcases HF5g' b hb with h | h; (have := hg b h; omega); omega)
           dsimp only [gotC]
           rw [HBND.out] at hH
           have HR5 := Lib.hid hr5; have HF5 := Lib.hid hf5; clear hr5 hf5)
        | (go_at_call 112; refine ((machM g n A B HCK.out).held ((machM g n A B HCK.out).fr HR5.out ((Fr.refl No _).alloc _) (fun _ _ _ x => x) (fun _ _ _ x => x))).mono ?_; rintro e6 w6 ⟨rfl, hr6, hf6⟩
           have hh6 := ((machM g n A B HCK.out).heldB HR5.out).1
           generalize (modM n A B).held s' = hv at *
           have c66 := (hf6.cell w5.heap.size 6 (by simp) (fun e => by have := (machM g n A B HCK.out).lt HR5.out _ e; omega)).trans (World.cell?_alloc_new w5 (gotC (saysM n A B s.b s.ended).1 (saysM n A B s.b s.ended).2.1 (saysM n A B s.b s.ended).2.2 held taken) 45 (i := 6))
           have HF6 := Lib.hid hf6; clear hf6 hr6)
        | (go_at_call 11; refine (awake_any _ (HG0.out.no (((((((HK.out.trans HF2.out).trans HF3.out).trans HF4.out).step HF5.out (fun b o hb e => by have := hg b e; omega)).alloc _).step HF6.out (fun b o hb e => by have := HF5g b e; omega))))).mono ?_; rintro e9 w9 ⟨rfl, hf9⟩))
      go_ret
      have h2 := HK.out.size
      have h3 := HF2.out.size
      have h5 := HF5.out.size
      exact ⟨rfl, ((((((HK.out.trans HF2.out).trans HF3.out).trans HF4.out).step HF5.out (fun b o hb e => by have := hg b e; omega)).alloc _).step HF6.out (fun b o hb e => by have := HF5g b e; omega)).trans hf9⟩
theorem walk_fieldsHolds (w : World) (hG : GM w) {v0 v1 v2 : Value} (k n : Int) (A B : List UInt8) (h : IsPar w v0 k n A B) (ss : List Strm) (hs : IsStrs w v1 ss) (cuts : List Int) (hc : IsInts w v2 cuts) : Calls Tryd.prog 7 #[v0, v1, v2] w (TruePost w) := by
  obtain ⟨aA, cA, aB, cB, rfl, _, hn, hA, hB, _⟩ := h
  obtain ⟨ai, ci, rfl, hat, hss⟩ := hs
  obtain ⟨ca, cc, rfl, hca⟩ := hc
  exact core_holds w hG k n aA aB A B cA cB ai ci ss ca cc cuts hn.2 hA hB hat hss hca
end Go.Proofs.YtjnebkoohimgjaaDoor
