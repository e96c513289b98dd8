/- HeadRefuses, walked. -/
import Derived.Test.YtjnebkoohimgjaaGreatDoorFdIf
import Derived.Test.YtjnebkoohimgjaaGreatDoorSame
import Derived.Test.YtjnebkoohimgjaaGreatDoorFdLaw
import Derived.Test.YtjnebkoohimgjaaGreatDoorLiftP
import Derived.Test.YtjnebkoohimgjaaGreatDoorLiftS
import Derived.Deep.RegionHeld3
import Derived.Test.YtjnebkoohimgjaaGreatDoorFdPok
namespace Go.Proofs.YtjnebkoohimgjaaGreatDoor
open Go.RowKit

set_option maxHeartbeats 4000000 in
set_option maxRecDepth 100000 in
theorem core_refuses (w : World) (hG : GM w) (k n : Int) (aA aB : Option Addr) (A B : List UInt8) (cA cB : Nat) (ai : Option Addr) (ci : Nat) (ss : List Strm) (ca : Option Addr) (cc : Nat) (cuts : List Int) (port : Int) (ab : Option Addr) (cb : Nat) (b : List UInt8) (hn : n ≤ 9223372036854775807)
    (hA : At w aA (A.map bv)) (hB : At w aB (B.map bv)) (hs : At w ai (scells ss)) (hss : ∀ s ∈ ss, At w s.a (s.b.map bv) ∧ s.b.length ≤ s.c) (hc : At w ca (cuts.map iv)) (hb : At w ab (b.map bv)) :
    Calls Tryz.prog 3 #[.agg #[.int .i64 k, .int .i64 n, .slice aA A.length cA, .slice aB B.length cB], .slice ai ss.length ci, .slice ca cuts.length cc, .int .i64 port, .slice ab b.length cb] w (TruePost w) := by
  have HG0 := Lib.hid hG; clear hG
  have HA := Lib.hid hA; have HB := Lib.hid hB; have HS := Lib.hid hs; have HSS := Lib.hid hss; have HC := Lib.hid hc; have HBB := Lib.hid hb
  clear hA hB hs hss hc hb
  cases hh : heavyB A B ss [(ca, cuts.length, cc)] with
  | true =>
    have HH := Lib.hid hh; clear hh
    go_enter Tryz.func3, Tryz.ntmps3
    go_wp2_with (first
      | (go_at_call 4; refine (heavy_any k n aA aB ai (some ⟨w.heap.size + 1, 0, none⟩) A B cA cB ci 1 ss [(ca, cuts.length, cc)] _ (at_no HS.out (((Fr.refl No w).alloc _).alloc _)) (fun _ => ⟨w.heap.size + 1, 0, rfl, row_at _ #[.slice ca cuts.length cc] _ rfl _ (by simp) 26 (0, 0)⟩) (by simp)).mono ?_; rw [HH.out]; rintro e1 w1 ⟨rfl, hf1⟩)
      | (go_at_call 6; refine (awake_any _ (HG0.out.no (((((Fr.refl No w).alloc _).alloc _).trans hf1)))).mono ?_; rintro e9 w9 ⟨rfl, hf9⟩))
    go_ret
    exact ⟨rfl, ((((Fr.refl No w).alloc _).alloc _).trans hf1).trans hf9⟩
  | false =>
    have HH := Lib.hid hh
    simp only [heavyB, decide_eq_false_iff_not, not_or] at hh
    obtain ⟨hA1, hB1, _, hs2, hc3⟩ := hh
    have hlA : A.length ≤ 100000000 := by omega
    have hlB : B.length ≤ 100000000 := by omega
    cases hf : fitB 7 k n A B ss.length with
    | false =>
      have HFI := Lib.hid hf; clear hf hs2 hc3
      go_enter Tryz.func3, Tryz.ntmps3
      go_wp2_with (first
        | (go_at_call 4; refine (heavy_any k n aA aB ai (some ⟨w.heap.size + 1, 0, none⟩) A B cA cB ci 1 ss [(ca, cuts.length, cc)] _ (at_no HS.out (((Fr.refl No w).alloc _).alloc _)) (fun _ => ⟨w.heap.size + 1, 0, rfl, row_at _ #[.slice ca cuts.length cc] _ rfl _ (by simp) 26 (0, 0)⟩) (by simp)).mono ?_; rw [HH.out]; rintro e1 w1 ⟨rfl, hf1⟩
           have KF : Fr No w w1 := (((Fr.refl No w).alloc _).alloc _).trans hf1
           have HK := Lib.hid KF
           obtain ⟨b1, z1⟩ := box_at (((Fr.refl No _).alloc _).trans hf1)
           have b10 := b1 0; have b11 := b1 1; have b12 := b1 2; have b13 := b1 3; clear KF hf1 b1)
        | (go_at_call 5; refine (fit_any k n aA aB ai A B cA cB ss.length ci _ (at_no HA.out HK.out) hlA hlB).mono ?_; rw [HFI.out]; rintro e2 w2 ⟨rfl, hf2⟩)
        | (go_at_call 6; refine (awake_any _ (HG0.out.no ((HK.out.trans hf2)))).mono ?_; rintro e9 w9 ⟨rfl, hf9⟩))
      go_ret
      exact ⟨rfl, (HK.out.trans hf2).trans hf9⟩
    | true =>
      by_cases hbl : 1000 < b.length
      · have HFI := Lib.hid hf; clear hf hs2 hc3
        have hbi : (1000 : Int) < b.length := by omega
        go_enter Tryz.func3, Tryz.ntmps3
        go_wp2_with (first
          | (go_at_call 4; refine (heavy_any k n aA aB ai (some ⟨w.heap.size + 1, 0, none⟩) A B cA cB ci 1 ss [(ca, cuts.length, cc)] _ (at_no HS.out (((Fr.refl No w).alloc _).alloc _)) (fun _ => ⟨w.heap.size + 1, 0, rfl, row_at _ #[.slice ca cuts.length cc] _ rfl _ (by simp) 26 (0, 0)⟩) (by simp)).mono ?_; rw [HH.out]; rintro e1 w1 ⟨rfl, hf1⟩
             have KF : Fr No w w1 := (((Fr.refl No w).alloc _).alloc _).trans hf1
             have HK := Lib.hid KF
             obtain ⟨b1, z1⟩ := box_at (((Fr.refl No _).alloc _).trans hf1)
             have b10 := b1 0; have b11 := b1 1; have b12 := b1 2; have b13 := b1 3; clear KF hf1 b1)
          | (go_at_call 5; refine (fit_any k n aA aB ai A B cA cB ss.length ci _ (at_no HA.out HK.out) hlA hlB).mono ?_; rw [HFI.out]; rintro e2 w2 ⟨rfl, hf2⟩)
          | (go_at_call 6; refine (awake_any _ (HG0.out.no ((HK.out.trans hf2)))).mono ?_; rintro e9 w9 ⟨rfl, hf9⟩))
        go_ret
        exact ⟨rfl, (HK.out.trans hf2).trans hf9⟩
      · obtain ⟨rfl, hl1, hck, hfk⟩ := fit_says k n A B ss.length hn hf
        obtain ⟨s, rfl⟩ : ∃ s, ss = [s] := by
          match ss, hl1 with
          | [s], _ => exact ⟨s, rfl⟩
        obtain ⟨hsb, hsc⟩ := HSS.out s (by simp)
        have hb2 : ¬ 2000 < s.b.length := fun h => hs2 ⟨s, by simp, h⟩
        have hcl : ¬ 3000 < cuts.length := fun h => hc3 ⟨(ca, cuts.length, cc), by simp, h⟩
        obtain ⟨ig, ioff, rfl, hrow⟩ := HS.out (by simp [scells, Strm.cells])
        have hig := hrow.lt (by simp [scells, Strm.cells])
        have HROW : Hid (Row w ig ioff (strmC s.a s.b s.c s.ended s.ec s.es s.ei)) := Lib.hid (by simpa [scells, Strm.cells, strmC] using hrow)
        have HSB := Lib.hid hsb
        have HFI := Lib.hid hf; clear hf hs2 hc3 hsb hrow
        have HCK := Lib.hid hck; have HFK := Lib.hid hfk; clear hck hfk
        have hbi : ¬ (1000 : Int) < b.length := by omega
        have HSM := Lib.hid (fun (W : World) (hW : Fr No w W) (held taken : Int) (g off c : Nat) (sa : Option Addr) (sc : Nat) hw hsa => sameM n A B HCK.out s.b s.ended s.ec s.es s.ei held taken ig ioff ci g off c sa sc s.a s.c W (HROW.out.fr hW (fun _ _ x => x)) hw hsa)
        have HMN := Lib.hid (fun (W : World) (hW : Fr No w W) => meansM_any n aA aB A B cA cB HCK.out ig ioff ci s W (at_no HA.out hW) (at_no HB.out hW) (HROW.out.fr hW (fun _ _ x => x)) (at_no HSB.out hW) (by omega) hsc)
        obtain ⟨r, hr⟩ : ∃ r, r = saysM n A B s.b s.ended := ⟨_, rfl⟩
        have HRR := Lib.hid hr.symm; clear hr
        rw [HRR.out] at HSM
        go_enter Tryz.func3, Tryz.ntmps3
        go_wp2_with (first
          | (go_at_call 4; refine (heavy_any 7 n aA aB (some ⟨ig, ioff, none⟩) (some ⟨w.heap.size + 1, 0, none⟩) A B cA cB ci 1 [s] [(ca, cuts.length, cc)] _ (at_no HS.out (((Fr.refl No w).alloc _).alloc _)) (fun _ => ⟨w.heap.size + 1, 0, rfl, row_at _ #[.slice ca cuts.length cc] _ rfl _ (by simp) 26 (0, 0)⟩) (by simp)).mono ?_; rw [HH.out]; rintro e1 w1 ⟨rfl, hf1⟩
             have KF : Fr No w w1 := (((Fr.refl No w).alloc _).alloc _).trans hf1
             have HK := Lib.hid KF
             obtain ⟨b1, z1⟩ := box_at (((Fr.refl No _).alloc _).trans hf1)
             have b10 := b1 0; have b11 := b1 1; have b12 := b1 2; have b13 := b1 3
             have HBX := Lib.hid b1; clear KF hf1 b1)
          | (go_at_call 5; refine (fit_any 7 n aA aB (some ⟨ig, ioff, none⟩) A B cA cB 1 ci _ (at_no HA.out HK.out) hlA hlB).mono ?_; rw [show fitB 7 7 n A B 1 = true from HFI.out]; rintro e2 w2 ⟨rfl, hf2⟩
             have HF2 := Lib.hid hf2
             have c20 := (hf2.at.1 w.heap.size 0 z1).trans b10; have c21 := (hf2.at.1 w.heap.size 1 z1).trans b11; have c22 := (hf2.at.1 w.heap.size 2 z1).trans b12; have c23 := (hf2.at.1 w.heap.size 3 z1).trans b13; have z2 := Nat.lt_of_lt_of_le z1 hf2.size; clear hf2)
          | (go_at_call 7; refine (newM_yes n aA aB A B cA cB _ (at_no HA.out (HK.out.trans HF2.out)) (at_no HB.out (HK.out.trans HF2.out)) hlA hlB HFK.out (HG0.out.no ((HK.out.trans HF2.out)))).mono ?_; rintro e3 w3 ⟨g, F, rfl, hg, hr3, hf3⟩
             have HR3 := Lib.hid hr3; have HF3 := Lib.hid hf3
             have c30 := (hf3.at.1 w.heap.size 0 z2).trans c20; have c31 := (hf3.at.1 w.heap.size 1 z2).trans c21; have c32 := (hf3.at.1 w.heap.size 2 z2).trans c22; have c33 := (hf3.at.1 w.heap.size 3 z2).trans c23; have z3 := Nat.lt_of_lt_of_le z2 hf3.size; clear hr3 hf3))
        have HGL := Lib.hid ((machM g n A B HCK.out).lt HR3.out)
        have HG := Lib.hid hg
        have HW4 := Lib.hid (((HK.out.trans HF2.out).trans HF3.out).alloc (.cells #[.iface 54 (.pointer (some ⟨g, 0, none⟩)), .int .i64 port, .slice ab b.length cb, .bool false] 37))
        have PA := Lib.hid (show PokeAt (methM g) w3.heap.size port ab b cb (w3.alloc (.cells #[.iface 54 (.pointer (some ⟨g, 0, none⟩)), .int .i64 port, .slice ab b.length cb, .bool false] 37)) F from
          have c := fun o => World.cell?_alloc_new w3 #[.iface 54 (.pointer (some ⟨g, 0, none⟩)), .int .i64 port, .slice ab b.length cb, .bool false] 37 (i := o)
          ⟨c 0, c 1, c 2, c 3, World.frozen?_alloc_new w3 _ 37 3, at_no HBB.out HW4.out, fun h0 y off e => by
            obtain ⟨x', o', e', hr⟩ := HBB.out (by simpa using h0)
            rw [e'] at e; injection e with e; injection e with e; subst e
            have h1 := hr.lt (by simpa using h0)
            have h2 := HK.out.size; have h3 := HF2.out.size; have h4 := HF3.out.size
            exact ⟨fun e => by have h5 := HG.out _ e; omega, by omega⟩, fun e => by have h5 := HGL.out _ e; omega⟩)
        have hd := drive_gen (poke_mach (machM g n A B HCK.out) (refM g n A B HCK.out) w3.heap.size (methM_le g (by have h1 := HG0.out.lt; have h2 := HK.out.size; have h3 := HF2.out.size; have h4 := HF3.out.size; omega)) port ab b cb (by omega)) HCK.out ig ioff ci s.a s.c s.b s.ended s.ec s.es s.ei ca cc cuts (fun y => F y ∨ y = w3.heap.size) _
          ⟨F, fun _ => Iff.rfl, (machM g n A B HCK.out).fr HR3.out ((Fr.refl No w3).alloc _) (fun _ _ _ x => x) (fun _ _ _ x => x), PA.out⟩
          (HROW.out.fr HW4.out (fun _ _ x => x)) (fun e => by have h2 := HK.out.size; have h3 := HF2.out.size; have h4 := HF3.out.size; rcases e with h | h; (have h5 := HG.out _ h; omega); omega)
          (at_no HSB.out HW4.out) (fun h0 x off e hF => by obtain ⟨x', o', e', hr⟩ := HSB.out (by simpa using h0); rw [e'] at e; injection e with e; injection e with e; subst e; have h1 := hr.lt (by simpa using h0); have h2 := HK.out.size; have h3 := HF2.out.size; have h4 := HF3.out.size; rcases hF with h | h; (have h5 := HG.out _ h; omega); omega) (by omega) hsc
          (at_no HC.out HW4.out) (fun h0 x off e hF => by obtain ⟨x', o', e', hr⟩ := HC.out (by simpa using h0); rw [e'] at e; injection e with e; injection e with e; subst e; have h1 := hr.lt (by simpa using h0); have h2 := HK.out.size; have h3 := HF2.out.size; have h4 := HF3.out.size; rcases hF with h | h; (have h5 := HG.out _ h; omega); omega) (by omega)
        rw [HRR.out] at hd
        have HD := Lib.hid hd; clear hd
        go_wp2_with (first
          | (go_at_call 8; refine HD.out.mono ?_; rintro e5 w5 ⟨held, taken, s', F', rfl, h0, h64, ⟨F0', hF', hr5, ha5⟩, hf5, hgr⟩
             dsimp only [gotC]
             have hs5 := hf5.size
             simp at hs5
             have HLT5 := Lib.hid ((machM g n A B HCK.out).lt hr5)
             have HR5 := Lib.hid ((machM g n A B HCK.out).fr hr5 ((Fr.refl No w5).alloc (.cells (gotC r.1 r.2.1 r.2.2 held taken) 41)) (fun _ _ _ x => x) (fun _ _ _ x => x))
             have HA5 := Lib.hid (ha5.next (F1 := F0') ((Fr.refl No w5).alloc (.cells (gotC r.1 r.2.1 r.2.2 held taken) 41)) (fun _ x => x) (fun _ _ _ _ x => x) (fun _ h => .inl h))
             have HG5 := Lib.hid (show ∀ y, F0' y → w.heap.size < y from (fun y hy => by
               have h2 := HK.out.size; have h3 := HF2.out.size; have h4 := HF3.out.size
               rcases hgr y ((hF' y).2 (.inl hy)) with (h | h) | h
               · have h5 := HG.out _ h; omega
               · omega
               · simp at h; omega))
             have HW5 := Lib.hid (show Fr No w w5 from HW4.out.step hf5 (fun b o hb e => by have h2 := HK.out.size; have h3 := HF2.out.size; have h4 := HF3.out.size; rcases e with e | e; (have h5 := HG.out _ e; omega); omega))
             have hgn : ¬ (F w.heap.size ∨ w.heap.size = w3.heap.size) := (fun e => by have h3 := HF2.out.size; have h4 := HF3.out.size; rcases e with e | e; (have h5 := HG.out _ e; omega); omega)
             have c4 := fun o => ((Fr.refl No w3).alloc (.cells #[.iface 54 (.pointer (some ⟨g, 0, none⟩)), .int .i64 port, .slice ab b.length cb, .bool false] 37)).at.1 w.heap.size o z3
             have z4 : w.heap.size < (w3.alloc (.cells #[.iface 54 (.pointer (some ⟨g, 0, none⟩)), .int .i64 port, .slice ab b.length cb, .bool false] 37)).heap.size := by simp; omega
             have c50 := (hf5.cell w.heap.size 0 z4 hgn).trans ((c4 0).trans c30); have c51 := (hf5.cell w.heap.size 1 z4 hgn).trans ((c4 1).trans c31); have c52 := (hf5.cell w.heap.size 2 z4 hgn).trans ((c4 2).trans c32); have c53 := (hf5.cell w.heap.size 3 z4 hgn).trans ((c4 3).trans c33)
             have z5 : w.heap.size < w5.heap.size := by omega
             have hxl5 : w3.heap.size < w5.heap.size := ha5.lt
             clear hr5 ha5 hf5 c4 hgr hF')
          | (go_at_call 9; refine (poke_any (machM g n A B HCK.out) (refM g n A B HCK.out) w3.heap.size (methM_le g (by have h1 := HG0.out.lt; have h2 := HK.out.size; have h3 := HF2.out.size; have h4 := HF3.out.size; omega)) port ab b cb (by omega) F0' s' _ HR5.out HA5.out).mono ?_; rintro e6 w6 ⟨rfl, hP6⟩
             have HW6 := Lib.hid (show Fr No w w6 from (HW5.out.alloc _).step hP6.fr (fun y o hy e => by
               have h2 := HK.out.size; have h3 := HF2.out.size; have h4 := HF3.out.size
               rcases e with e | e
               · have := HG5.out y e; omega
               · omega))
             have F6 := Lib.hid (show Fr (fun y _ => F0' y ∨ y = w3.heap.size) (w5.alloc (.cells (gotC r.1 r.2.1 r.2.2 held taken) 41)) w6 from hP6.fr)
             have x6 : w6.cell? ⟨w3.heap.size, 3, none⟩ = some (.bool false) := hP6.at_.c3
             have xl6 : w3.heap.size < w6.heap.size := hP6.at_.lt
             clear hP6))
        have hgn5 : ¬ (F0' w5.heap.size ∨ w5.heap.size = w3.heap.size) := (fun e => by rcases e with e | e; (have := HLT5.out _ e; omega); omega)
        have hgn0 : ¬ (F0' w.heap.size ∨ w.heap.size = w3.heap.size) := (fun e => by have h3 := HF2.out.size; have h4 := HF3.out.size; rcases e with e | e; (have := HG5.out _ e; omega); omega)
        have H16 := Lib.hid (fun (W : World) (f : Fr No w6 W) => (show W.cell? ⟨w.heap.size, 0, none⟩ = some (.int .i64 7) ∧ W.cell? ⟨w.heap.size, 1, none⟩ = some (.int .i64 n) ∧ W.cell? ⟨w.heap.size, 2, none⟩ = some (.slice aA A.length cA) ∧ W.cell? ⟨w.heap.size, 3, none⟩ = some (.slice aB B.length cB) ∧ W.cell? ⟨w5.heap.size, 0, none⟩ = some (sv r.1) ∧ W.cell? ⟨w5.heap.size, 1, none⟩ = some (sv []) ∧ W.cell? ⟨w5.heap.size, 2, none⟩ = some (sv []) ∧ W.cell? ⟨w5.heap.size, 3, none⟩ = some (sv []) ∧ W.cell? ⟨w5.heap.size, 4, none⟩ = some (.int .i64 r.2.1) ∧ W.cell? ⟨w5.heap.size, 5, none⟩ = some (.int .i64 r.2.2) ∧ W.cell? ⟨w5.heap.size, 6, none⟩ = some (.int .i64 held) ∧ W.cell? ⟨w5.heap.size, 7, none⟩ = some (.int .i64 taken) ∧ W.cell? ⟨w5.heap.size, 8, none⟩ = some (.int .i64 0) ∧ W.cell? ⟨w5.heap.size, 9, none⟩ = some (.int .i64 0) ∧ W.cell? ⟨w5.heap.size, 10, none⟩ = some (.int .i64 0) ∧ W.cell? ⟨w5.heap.size, 11, none⟩ = some (.bool false) ∧ W.cell? ⟨w3.heap.size, 3, none⟩ = some (.bool false) from
          have y1 := fun o => (f.at.1 w.heap.size o (Nat.lt_trans z5 (by have := F6.out.size; simp at this; omega))).trans (F6.out.cell w.heap.size o (by simp; omega) hgn0)
          have y0 := fun o => ((Fr.refl No w5).alloc (.cells (gotC r.1 r.2.1 r.2.2 held taken) 41)).at.1 w.heap.size o z5
          have x2 := fun o => ((f.at.1 w5.heap.size o (by have := F6.out.size; simp at this; omega)).trans (F6.out.cell w5.heap.size o (by simp) hgn5)).trans (World.cell?_alloc_new w5 (gotC r.1 r.2.1 r.2.2 held taken) 41 (i := o))
          ⟨((y1 0).trans (y0 0)).trans c50, ((y1 1).trans (y0 1)).trans c51, ((y1 2).trans (y0 2)).trans c52, ((y1 3).trans (y0 3)).trans c53, x2 0, x2 1, x2 2, x2 3, x2 4, x2 5, x2 6, x2 7, x2 8, x2 9, x2 10, x2 11, (f.at.1 w3.heap.size 3 xl6).trans x6⟩))
        have HS0 := H16.out _ (Fr.refl _ _).drew
        go_region_held3 (fun W => W.cell? ⟨w.heap.size, 0, none⟩ = some (.int .i64 7) ∧ W.cell? ⟨w.heap.size, 1, none⟩ = some (.int .i64 n) ∧ W.cell? ⟨w.heap.size, 2, none⟩ = some (.slice aA A.length cA) ∧ W.cell? ⟨w.heap.size, 3, none⟩ = some (.slice aB B.length cB) ∧ W.cell? ⟨w5.heap.size, 0, none⟩ = some (sv r.1) ∧ W.cell? ⟨w5.heap.size, 1, none⟩ = some (sv []) ∧ W.cell? ⟨w5.heap.size, 2, none⟩ = some (sv []) ∧ W.cell? ⟨w5.heap.size, 3, none⟩ = some (sv []) ∧ W.cell? ⟨w5.heap.size, 4, none⟩ = some (.int .i64 r.2.1) ∧ W.cell? ⟨w5.heap.size, 5, none⟩ = some (.int .i64 r.2.2) ∧ W.cell? ⟨w5.heap.size, 6, none⟩ = some (.int .i64 held) ∧ W.cell? ⟨w5.heap.size, 7, none⟩ = some (.int .i64 taken) ∧ W.cell? ⟨w5.heap.size, 8, none⟩ = some (.int .i64 0) ∧ W.cell? ⟨w5.heap.size, 9, none⟩ = some (.int .i64 0) ∧ W.cell? ⟨w5.heap.size, 10, none⟩ = some (.int .i64 0) ∧ W.cell? ⟨w5.heap.size, 11, none⟩ = some (.bool false) ∧ W.cell? ⟨w3.heap.size, 3, none⟩ = some (.bool false))
          (first | exact HS0 | exact H16.out _ (Fr.refl _ _).drew | exact H16.out _ ((Fr.refl _ _).drew.trans g1) | exact H16.out _ (((Fr.refl _ _).drew.trans g1).trans g2) | exact H16.out _ ((((Fr.refl _ _).drew.trans g1).trans g2).trans g3))
          (first
            | (go_at_call 11; refine (HMN.out _ (HW6.out.trans (Fr.refl _ _).drew)).mono ?_; rintro e7 w7 ⟨gm, cm, sm, scm, rfl, hrm, ham, g1⟩)
            | (go_at_call 10; refine (HSM.out _ (HW6.out.trans ((Fr.refl _ _).drew.trans g1)) held taken gm 0 cm sm scm hrm ham).mono ?_; rintro e8 w8 ⟨rfl, g2⟩)
            | (go_at_call 6; refine (awake_any _ (HG0.out.no (HW6.out.trans ((((Fr.refl _ _).drew.trans g1).trans g2))))).mono ?_; rintro e9 w9 ⟨rfl, g3⟩))
        all_goals
          go_wp2
          go_ret
          exact ⟨rfl, HW6.out.trans ((((Fr.refl _ _).drew.trans g1).trans g2).trans g3)⟩
theorem walk_fieldsRefuses (w : World) (hG : GM w) {v0 v1 v2 v4 : Value} (k n : Int) (A B : List UInt8) (h : IsPar w v0 k n A B) (ss : List Strm) (hs : IsStrs w v1 ss) (cuts : List Int) (hc : IsInts w v2 cuts) (port : Int) (_ : (Lit.int .i64 port).wf = true) (b : List UInt8) (hb : IsB w v4 b) : Calls Tryz.prog 3 #[v0, v1, v2, .int .i64 port, v4] w (TruePost w) := by
  obtain ⟨aA, cA, aB, cB, rfl, _, hn, hA, hB, _⟩ := h
  obtain ⟨ai, ci, rfl, hat, hss⟩ := hs
  obtain ⟨ca, cc, rfl, hca⟩ := hc
  obtain ⟨ab, cb, rfl, _, _, hb, _⟩ := hb
  exact core_refuses w hG k n aA aB A B cA cB ai ci ss ca cc cuts port ab cb b hn.2 hA hB hat hss hca hb
end Go.Proofs.YtjnebkoohimgjaaGreatDoor
