/- FieldsGrows, walked. -/
import Derived.Test.YtjnebkoohimgjaaDoorFdIf
import Derived.Test.YtjnebkoohimgjaaDoorFdLaw
import Derived.Test.YtjnebkoohimgjaaDoorLiftP
import Derived.Test.YtjnebkoohimgjaaDoorLiftS
import Derived.Test.YtjnebkoohimgjaaDoorGrow
import Derived.Deep.RegionHeld3
namespace Go.Proofs.YtjnebkoohimgjaaDoor
theorem growsM (n : Int) (A B : List UInt8) (_h : chkR 7 n A B = 0) (b c : List UInt8) (e : Bool) :
    (∃ s, (saysM n A B (b ++ c) e).1 = (saysM n A B b false).1 ++ s) ∧ ((saysM n A B b false).2.1 = -1 → saysM n A B (b ++ c) e = saysM n A B b false) :=
  says_grow (bmL (fdF (byM A) n.toNat)) ([], ()) b c e
theorem grown_says {n : Int} {A B : List UInt8} (h : chkR 7 n A B = 0) {b b' : List UInt8} {ended e' : Bool} (hG : Grown b ended b' e') :
    (∃ s, (saysM n A B b' e').1 = (saysM n A B b ended).1 ++ s) ∧ ((saysM n A B b ended).2.1 = -1 → saysM n A B b' e' = saysM n A B b ended) := by
  rcases hG with ⟨rfl, rfl⟩ | ⟨rfl, t, rfl⟩
  · exact ⟨⟨[], by simp⟩, fun _ => rfl⟩
  · exact growsM n A B h b t e'
end Go.Proofs.YtjnebkoohimgjaaDoor
namespace Go.Proofs.YtjnebkoohimgjaaDoor
open Go.RowKit

set_option maxHeartbeats 4000000 in
set_option maxRecDepth 100000 in
theorem core_grows (w : World) (hG : GM w) (k n : Int) (aA aB : Option Addr) (A B : List UInt8) (cA cB : Nat) (ai : Option Addr) (ci : Nat) (ss : List Strm) (ca : Option Addr) (cc : Nat) (cuts : List Int) (am : Option Addr) (cm : Nat) (ms : List (List UInt8)) (ae : Option Addr) (ce : Nat) (ends : List Bool) (hn : n ≤ 9223372036854775807)
    (hA : At w aA (A.map bv)) (hB : At w aB (B.map bv)) (hs : At w ai (scells ss)) (hss : ∀ s ∈ ss, At w s.a (s.b.map bv) ∧ s.b.length ≤ s.c) (hc : At w ca (cuts.map iv)) (hm : AtP w am ms) (hml : ∀ p ∈ ms, p.length ≤ 140737488351232) (he : At w ae (ends.map Value.bool)) :
    Calls Tryd.prog 3 #[.agg #[.int .i64 k, .int .i64 n, .slice aA A.length cA, .slice aB B.length cB], .slice ai ss.length ci, .slice am ms.length cm, .slice ae ends.length ce, .slice ca cuts.length cc] w (TruePost w) := by
  have HG0 := Lib.hid hG; clear hG
  have HA := Lib.hid hA; have HB := Lib.hid hB; have HS := Lib.hid hs; have HSS := Lib.hid hss; have HC := Lib.hid hc; have HM := Lib.hid hm; have HML := Lib.hid hml; have HE := Lib.hid he
  clear hA hB hs hss hc hm hml he
  cases hh : heavyB A B ss [(ca, cuts.length, cc)] with
  | true =>
    have HH := Lib.hid hh; clear hh
    go_enter Tryd.func3, Tryd.ntmps3
    go_wp2_with (first
      | (go_at_call 9; refine (heavy_any k n aA aB ai (some ⟨w.heap.size + 1, 0, none⟩) A B cA cB ci 1 ss [(ca, cuts.length, cc)] _ (at_no HS.out (((Fr.refl No w).alloc _).alloc _)) (fun _ => ⟨w.heap.size + 1, 0, rfl, row_at _ #[.slice ca cuts.length cc] _ rfl _ (by simp) 28 (0, 0)⟩) (by simp)).mono ?_; rw [HH.out]; rintro e1 w1 ⟨rfl, hf1⟩)
      | (go_at_call 11; refine (awake_any _ (HG0.out.no (((((Fr.refl No w).alloc _).alloc _).trans hf1)))).mono ?_; rintro e9 w9 ⟨rfl, hf9⟩))
    go_ret
    exact ⟨rfl, ((((Fr.refl No w).alloc _).alloc _).trans hf1).trans hf9⟩
  | false =>
    have HH := Lib.hid hh
    simp only [heavyB, decide_eq_false_iff_not, not_or] at hh
    obtain ⟨hA1, hB1, _, hs2, hc3⟩ := hh
    have hlA : A.length ≤ 100000000 := by omega
    have hlB : B.length ≤ 100000000 := by omega
    cases hf : fitB 7 k n A B ss.length with
    | false =>
      have HFI := Lib.hid hf; clear hf hs2 hc3
      go_enter Tryd.func3, Tryd.ntmps3
      go_wp2_with (first
        | (go_at_call 9; refine (heavy_any k n aA aB ai (some ⟨w.heap.size + 1, 0, none⟩) A B cA cB ci 1 ss [(ca, cuts.length, cc)] _ (at_no HS.out (((Fr.refl No w).alloc _).alloc _)) (fun _ => ⟨w.heap.size + 1, 0, rfl, row_at _ #[.slice ca cuts.length cc] _ rfl _ (by simp) 28 (0, 0)⟩) (by simp)).mono ?_; rw [HH.out]; rintro e1 w1 ⟨rfl, hf1⟩
           have KF : Fr No w w1 := (((Fr.refl No w).alloc _).alloc _).trans hf1
           have HK := Lib.hid KF
           obtain ⟨b1, z1⟩ := box_at (((Fr.refl No _).alloc _).trans hf1)
           have b10 := b1 0; have b11 := b1 1; have b12 := b1 2; have b13 := b1 3; clear KF hf1 b1)
        | (go_at_call 10; refine (fit_any k n aA aB ai A B cA cB ss.length ci _ (at_no HA.out HK.out) hlA hlB).mono ?_; rw [HFI.out]; rintro e2 w2 ⟨rfl, hf2⟩)
        | (go_at_call 11; refine (awake_any _ (HG0.out.no ((HK.out.trans hf2)))).mono ?_; rintro e9 w9 ⟨rfl, hf9⟩))
      go_ret
      exact ⟨rfl, (HK.out.trans hf2).trans hf9⟩
    | true =>
      by_cases hm8 : 8 < ms.length
      · have HFI := Lib.hid hf; clear hf hs2 hc3
        have hmi : (8 : Int) < ms.length := by omega
        go_enter Tryd.func3, Tryd.ntmps3
        go_wp2_with (first
          | (go_at_call 9; refine (heavy_any k n aA aB ai (some ⟨w.heap.size + 1, 0, none⟩) A B cA cB ci 1 ss [(ca, cuts.length, cc)] _ (at_no HS.out (((Fr.refl No w).alloc _).alloc _)) (fun _ => ⟨w.heap.size + 1, 0, rfl, row_at _ #[.slice ca cuts.length cc] _ rfl _ (by simp) 28 (0, 0)⟩) (by simp)).mono ?_; rw [HH.out]; rintro e1 w1 ⟨rfl, hf1⟩
             have KF : Fr No w w1 := (((Fr.refl No w).alloc _).alloc _).trans hf1
             have HK := Lib.hid KF
             obtain ⟨b1, z1⟩ := box_at (((Fr.refl No _).alloc _).trans hf1)
             have b10 := b1 0; have b11 := b1 1; have b12 := b1 2; have b13 := b1 3; clear KF hf1 b1)
          | (go_at_call 10; refine (fit_any k n aA aB ai A B cA cB ss.length ci _ (at_no HA.out HK.out) hlA hlB).mono ?_; rw [HFI.out]; rintro e2 w2 ⟨rfl, hf2⟩)
          | (go_at_call 11; refine (awake_any _ (HG0.out.no ((HK.out.trans hf2)))).mono ?_; rintro e9 w9 ⟨rfl, hf9⟩))
        go_ret
        exact ⟨rfl, (HK.out.trans hf2).trans hf9⟩
      · obtain ⟨rfl, hl1, hck, hfk⟩ := fit_says k n A B ss.length hn hf
        obtain ⟨s, rfl⟩ : ∃ s, ss = [s] := by
          match ss, hl1 with
          | [s], _ => exact ⟨s, rfl⟩
        obtain ⟨hsb, hsc⟩ := HSS.out s (by simp)
        have hb2 : ¬ 2000 < s.b.length := fun h => hs2 ⟨s, by simp, h⟩
        have hcl : ¬ 3000 < cuts.length := fun h => hc3 ⟨(ca, cuts.length, cc), by simp, h⟩
        obtain ⟨ig, ioff, rfl, hrow⟩ := HS.out (by simp [scells, Strm.cells])
        have hig := hrow.lt (by simp [scells, Strm.cells])
        have HROW : Hid (Row w ig ioff (strmC s.a s.b s.c s.ended s.ec s.es s.ei)) := Lib.hid (by simpa [scells, Strm.cells, strmC] using hrow)
        have HSB := Lib.hid hsb
        have HFI := Lib.hid hf; clear hf hs2 hc3 hsb hrow
        have HCK := Lib.hid hck; have HFK := Lib.hid hfk; clear hck hfk
        have hmi : ¬ (8 : Int) < ms.length := by omega
        obtain ⟨j0, hj, jz0, jz1, jz2⟩ := info_parts Tryd.info5
        have HCP := Lib.hid (fun (W : World) (hW : Fr No w W) => rcopy_one ig ioff ci s.a s.c s.b s.ended s.ec s.es s.ei W (HROW.out.fr hW (fun _ _ x => x)) (at_no HSB.out hW) (by omega))
        go_enter Tryd.func3, Tryd.ntmps3
        go_wp2_with (first
          | (go_at_call 9; refine (heavy_any 7 n aA aB (some ⟨ig, ioff, none⟩) (some ⟨w.heap.size + 1, 0, none⟩) A B cA cB ci 1 [s] [(ca, cuts.length, cc)] _ (at_no HS.out (((Fr.refl No w).alloc _).alloc _)) (fun _ => ⟨w.heap.size + 1, 0, rfl, row_at _ #[.slice ca cuts.length cc] _ rfl _ (by simp) 28 (0, 0)⟩) (by simp)).mono ?_; rw [HH.out]; rintro e1 w1 ⟨rfl, hf1⟩
             have KF : Fr No w w1 := (((Fr.refl No w).alloc _).alloc _).trans hf1
             have HK := Lib.hid KF
             obtain ⟨b1, z1⟩ := box_at (((Fr.refl No _).alloc _).trans hf1)
             have b10 := b1 0; have b11 := b1 1; have b12 := b1 2; have b13 := b1 3; clear KF hf1 b1)
          | (go_at_call 10; refine (fit_any 7 n aA aB (some ⟨ig, ioff, none⟩) A B cA cB 1 ci _ (at_no HA.out HK.out) hlA hlB).mono ?_; rw [show fitB 7 7 n A B 1 = true from HFI.out]; rintro e2 w2 ⟨rfl, hf2⟩
             have HF2 := Lib.hid hf2
             have c20 := (hf2.at.1 w.heap.size 0 z1).trans b10; have c21 := (hf2.at.1 w.heap.size 1 z1).trans b11; have c22 := (hf2.at.1 w.heap.size 2 z1).trans b12; have c23 := (hf2.at.1 w.heap.size 3 z1).trans b13; have z2 := Nat.lt_of_lt_of_le z1 hf2.size; clear hf2)
          | (go_at_call 12; refine (HCP.out _ (HK.out.trans HF2.out)).mono ?_; rintro e3 w3 ⟨v, la, lc, rfl, hos, hf3⟩
             obtain ⟨gl, lo, lcl, rfl, hlong⟩ := hos.long
             have HL := Lib.hid hlong; have HF3 := Lib.hid hf3; clear hlong hos hf3))
        have HBX := Lib.hid (fun (W : World) (f : Fr No w2 W) => (show W.cell? ⟨w.heap.size, 0, none⟩ = some (.int .i64 7) ∧ W.cell? ⟨w.heap.size, 1, none⟩ = some (.int .i64 n) ∧ W.cell? ⟨w.heap.size, 2, none⟩ = some (.slice aA A.length cA) ∧ W.cell? ⟨w.heap.size, 3, none⟩ = some (.slice aB B.length cB) from ⟨(f.at.1 _ 0 z2).trans c20, (f.at.1 _ 1 z2).trans c21, (f.at.1 _ 2 z2).trans c22, (f.at.1 _ 3 z2).trans c23⟩))
        go_loopw [12] (fun i wr => (i = .int .i64 0 ∧ Hid (w3 = wr)) ∨ (i = .int .i64 1 ∧ ∃ (a' : Option Addr) (c' : Nat) (b' : List UInt8) (e' : Bool), Hid (LongAt wr w2.heap.size gl lo a' c' b' e' s.ec s.es s.ei) ∧ Hid (Fr No w2 wr) ∧ Hid (Grown s.b s.ended b' e') ∧ Hid (b'.length ≤ 3000))) (fun i _ => 1 - (intOf i).toNat)
        case atStart => exact .inl ⟨rfl, Lib.hid rfl⟩
        case round =>
          rcases hrel with ⟨rfl, HW⟩ | ⟨rfl, a', c', b', e', HLW, HFW, HG, HLen⟩
          · have hw3 := HW.out
            subst hw3
            have hgl := HL.out.row.lt (by simp [strmC])
            have r0 : w3.cell? ⟨gl, lo, none⟩ = some (.slice la s.b.length lc) := HL.out.row.get 0 _ rfl
            have r1 : w3.cell? ⟨gl, lo + 1, none⟩ = some (.bool s.ended) := HL.out.row.get 1 _ rfl
            have r2 : w3.cell? ⟨gl, lo + 2, none⟩ = some (.int .i64 s.ec) := HL.out.row.get 2 _ rfl
            have z1' : w3.frozen? ⟨gl, lo + 1, none⟩ = false := HL.out.fz _
            rcases Bool.eq_false_or_eq_true s.ended with hen | hen
            · rw [hen] at r1
              clear hen
              go_wp2
              go_roundw
              case rel => exact .inr ⟨by go_num, la, lc, s.b, s.ended, HL, HF3, Lib.hid (.inl ⟨rfl, rfl⟩), Lib.hid (by omega)⟩
              case measure => simp [intOf]
            · rw [hen] at r1
              have HEN := Lib.hid hen
              clear hen
              by_cases hec : s.ec = 0
              · have k1 : (s.ec != 0) = false := by simp [hec]
                clear hec
                by_cases he0 : 0 < ends.length
                · have hei : (0 : Int) < ends.length := by omega
                  obtain ⟨ge, eo, rfl, her⟩ := HE.out (by simpa using he0)
                  have hce := her.get 0 (.bool ends[0]) (by simp [he0])
                  rw [Nat.add_zero] at hce
                  have HCE := Lib.hid (fun (W : World) (f : Fr No w W) => (f.at.1 ge eo (World.block_lt_of_cell? w _ hce)).trans hce)
                  clear her hce
                  generalize ends[0] = E at *
                  by_cases hm0 : 0 < ms.length
                  · have hm0i : (0 : Int) < ms.length := by omega
                    obtain ⟨gm, mo, rfl, hmr⟩ := HM.out hm0
                    obtain ⟨xa, xc, hcell, hxat⟩ := hmr 0 hm0
                    have hm3 : w3.cell? ⟨gm, mo, none⟩ = some (.slice xa ms[0].length xc) := ((((HK.out.trans HF2.out).trans HF3.out)).at.1 gm mo (World.block_lt_of_cell? w _ hcell)).trans hcell
                    have HX := Lib.hid (at_no hxat ((HK.out.trans HF2.out).trans HF3.out))
                    have hmle := HML.out _ (List.getElem_mem hm0)
                    clear hmr hcell hxat
                    generalize ms[0] = m0 at *
                    by_cases hmk : 1000 < m0.length
                    · have hmki : (1000 : Int) < m0.length := by omega
                      go_wp2_with (first
                        | (go_at_call 11; refine (awake_any _ (HG0.out.no ((((HK.out.trans HF2.out).trans HF3.out))))).mono ?_; rintro e9 w9 ⟨rfl, hf9⟩))
                      go_ret
                      exact ⟨rfl, (((HK.out.trans HF2.out).trans HF3.out).trans hf9)⟩
                    · have hmki : ¬ (1000 : Int) < m0.length := by omega
                      go_wp2_with fail
                      go_region_law (refine step_append_sl rfl (.tmp 76) (.tmp 80) 22 22 rfl 5 j0 (.int .u8 0) 1 1 Tryd.underlying22 hj jz0 jz1 jz2 rfl (by decide) (.slice la s.b.length lc) s.b.length (s.b.map bv) rfl (HL.out.own.fr (Fr.refl No w3).drew (fun _ _ _ x => x)) _ m0.length (m0.map bv) rfl (src_slice Tryd.underlying22 (by simp) (at_no HX.out (Fr.refl No w3).drew) (by simp [Value.oneCell'])) (by omega) (by omega) ?_
                                     intro v1 w5 hown1 hfr1 hblk1
                                     obtain ⟨a1, c1, hv1, hat1, _⟩ := hown1.at
                                     subst hv1
                                     have fa : Fr (Blk (.slice la s.b.length lc)) w3 w5 := (Fr.refl (Blk (.slice la s.b.length lc)) w3).drew.trans hfr1
                                     have e0 : w5.cell? ⟨gl, lo, none⟩ = some (.slice la s.b.length lc) := (fa.cell gl lo hgl (fun h => (HL.out.lowb gl h).2 rfl)).trans r0
                                     have ez : w5.frozen? ⟨gl, lo, none⟩ = false := (fa.frozen gl lo hgl (fun h => (HL.out.lowb gl h).2 rfl)).trans (HL.out.fz lo)
                                     have y1 : (w5.setCell ⟨gl, lo, none⟩ (.slice a1 (s.b.length + m0.length) c1)).frozen? ⟨gl, lo + 1, none⟩ = false := (by rw [World.frozen?_setCell]; exact (fa.frozen gl (lo + 1) hgl (fun h => (HL.out.lowb gl h).2 rfl)).trans (HL.out.fz _))
                                     have y2 : (w5.setCell ⟨gl, lo, none⟩ (.slice a1 (s.b.length + m0.length) c1)).cell? ⟨gl, lo + 1, none⟩ = some (.bool false) := (((frSet w5 gl lo (.slice a1 (s.b.length + m0.length) c1)).cell gl (lo + 1) (by have := fa.size; omega) (fun e => by omega)).trans ((fa.cell gl (lo + 1) hgl (fun h => (HL.out.lowb gl h).2 rfl)).trans r1))
                                     have fn : Fr No w (w5.setCell ⟨gl, lo, none⟩ (.slice a1 (s.b.length + m0.length) c1)) := ((((HK.out.trans HF2.out).trans HF3.out).step fa (fun x o hx h => by have h1 := (HL.out.lowb x h).1; have h2 := HK.out.size; have h3 := HF2.out.size; omega)).setCell (fun h => by have h1 := HL.out.low; have h2 := HK.out.size; have h3 := HF2.out.size; omega) _)
                                     have he5 := HCE.out _ fn)
                      all_goals
                        have HO1 := Lib.hid hown1; have HFA := Lib.hid fa; have HB1 := Lib.hid hblk1
                        clear hown1 hfr1 hblk1 fa hat1 fn
                        go_wp2
                        go_roundw
                        case rel =>
                          have nb : ∀ x, (Value.slice a1 (s.b.length + m0.length) c1).ownBlock = some x → w2.heap.size ≤ x ∧ x ≠ gl := fun x e => by
                            have h9 := HF3.out.size
                            rcases HB1.out with h | h
                            · rw [h] at e; exact HL.out.lowb x e
                            · rw [h] at e; injection e with e; simp at e; omega
                          have R1 := HL.out.row.fr HFA.out (fun i _ h => (HL.out.lowb gl h).2 rfl)
                          have Z1 := fun o => (HFA.out.frozen gl o hgl (fun h => (HL.out.lowb gl h).2 rfl)).trans (HL.out.fz o)
                          have L1 := LongAt.more (b' := s.b ++ m0) (a' := a1) (c' := c1) R1 Z1 HL.out.low (by rw [List.length_append, List.map_append]; exact HO1.out) (by rw [List.length_append]; exact nb)
                          rw [List.length_append] at L1
                          exact .inr ⟨by go_num, a1, c1, s.b ++ m0, E, Lib.hid (L1.end_ E), Lib.hid (((HF3.out.step HFA.out (fun x o hx h => by have := (HL.out.lowb x h).1; omega)).setCell (fun h => by have := HL.out.low; omega) _).setCell (fun h => by have := HL.out.low; omega) _), Lib.hid (.inr ⟨HEN.out, m0, rfl⟩), Lib.hid (by rw [List.length_append]; omega)⟩
                        case measure => simp [intOf]

                  · have hm0i : ¬ (0 : Int) < ms.length := by omega
                    have he3 := HCE.out _ ((HK.out.trans HF2.out).trans HF3.out)
                    go_wp2
                    go_roundw
                    case rel => exact .inr ⟨by go_num, la, lc, s.b, E, Lib.hid (HL.out.end_ E), Lib.hid (HF3.out.setCell (fun h => by have := HL.out.low; omega) _), Lib.hid (.inr ⟨HEN.out, [], by simp⟩), Lib.hid (by omega)⟩
                    case measure => simp [intOf]

                · have hei : ¬ (0 : Int) < ends.length := by omega
                  by_cases hm0 : 0 < ms.length
                  · have hm0i : (0 : Int) < ms.length := by omega
                    obtain ⟨gm, mo, rfl, hmr⟩ := HM.out hm0
                    obtain ⟨xa, xc, hcell, hxat⟩ := hmr 0 hm0
                    have hm3 : w3.cell? ⟨gm, mo, none⟩ = some (.slice xa ms[0].length xc) := ((((HK.out.trans HF2.out).trans HF3.out)).at.1 gm mo (World.block_lt_of_cell? w _ hcell)).trans hcell
                    have HX := Lib.hid (at_no hxat ((HK.out.trans HF2.out).trans HF3.out))
                    have hmle := HML.out _ (List.getElem_mem hm0)
                    clear hmr hcell hxat
                    generalize ms[0] = m0 at *
                    by_cases hmk : 1000 < m0.length
                    · have hmki : (1000 : Int) < m0.length := by omega
                      go_wp2_with (first
                        | (go_at_call 11; refine (awake_any _ (HG0.out.no ((((HK.out.trans HF2.out).trans HF3.out))))).mono ?_; rintro e9 w9 ⟨rfl, hf9⟩))
                      go_ret
                      exact ⟨rfl, (((HK.out.trans HF2.out).trans HF3.out).trans hf9)⟩
                    · have hmki : ¬ (1000 : Int) < m0.length := by omega
                      go_wp2_with fail
                      go_region_law (refine step_append_sl rfl (.tmp 76) (.tmp 80) 22 22 rfl 5 j0 (.int .u8 0) 1 1 Tryd.underlying22 hj jz0 jz1 jz2 rfl (by decide) (.slice la s.b.length lc) s.b.length (s.b.map bv) rfl (HL.out.own.fr (Fr.refl No w3).drew (fun _ _ _ x => x)) _ m0.length (m0.map bv) rfl (src_slice Tryd.underlying22 (by simp) (at_no HX.out (Fr.refl No w3).drew) (by simp [Value.oneCell'])) (by omega) (by omega) ?_
                                     intro v1 w5 hown1 hfr1 hblk1
                                     obtain ⟨a1, c1, hv1, hat1, _⟩ := hown1.at
                                     subst hv1
                                     have fa : Fr (Blk (.slice la s.b.length lc)) w3 w5 := (Fr.refl (Blk (.slice la s.b.length lc)) w3).drew.trans hfr1
                                     have e0 : w5.cell? ⟨gl, lo, none⟩ = some (.slice la s.b.length lc) := (fa.cell gl lo hgl (fun h => (HL.out.lowb gl h).2 rfl)).trans r0
                                     have ez : w5.frozen? ⟨gl, lo, none⟩ = false := (fa.frozen gl lo hgl (fun h => (HL.out.lowb gl h).2 rfl)).trans (HL.out.fz lo)
                                     have y1 : (w5.setCell ⟨gl, lo, none⟩ (.slice a1 (s.b.length + m0.length) c1)).frozen? ⟨gl, lo + 1, none⟩ = false := (by rw [World.frozen?_setCell]; exact (fa.frozen gl (lo + 1) hgl (fun h => (HL.out.lowb gl h).2 rfl)).trans (HL.out.fz _))
                                     have y2 : (w5.setCell ⟨gl, lo, none⟩ (.slice a1 (s.b.length + m0.length) c1)).cell? ⟨gl, lo + 1, none⟩ = some (.bool false) := (((frSet w5 gl lo (.slice a1 (s.b.length + m0.length) c1)).cell gl (lo + 1) (by have := fa.size; omega) (fun e => by omega)).trans ((fa.cell gl (lo + 1) hgl (fun h => (HL.out.lowb gl h).2 rfl)).trans r1))
                                     have fn : Fr No w (w5.setCell ⟨gl, lo, none⟩ (.slice a1 (s.b.length + m0.length) c1)) := ((((HK.out.trans HF2.out).trans HF3.out).step fa (fun x o hx h => by have h1 := (HL.out.lowb x h).1; have h2 := HK.out.size; have h3 := HF2.out.size; omega)).setCell (fun h => by have h1 := HL.out.low; have h2 := HK.out.size; have h3 := HF2.out.size; omega) _)
                                     skip)
                      all_goals
                        have HO1 := Lib.hid hown1; have HFA := Lib.hid fa; have HB1 := Lib.hid hblk1
                        clear hown1 hfr1 hblk1 fa hat1 fn
                        go_wp2
                        go_roundw
                        case rel =>
                          have nb : ∀ x, (Value.slice a1 (s.b.length + m0.length) c1).ownBlock = some x → w2.heap.size ≤ x ∧ x ≠ gl := fun x e => by
                            have h9 := HF3.out.size
                            rcases HB1.out with h | h
                            · rw [h] at e; exact HL.out.lowb x e
                            · rw [h] at e; injection e with e; simp at e; omega
                          have R1 := HL.out.row.fr HFA.out (fun i _ h => (HL.out.lowb gl h).2 rfl)
                          have Z1 := fun o => (HFA.out.frozen gl o hgl (fun h => (HL.out.lowb gl h).2 rfl)).trans (HL.out.fz o)
                          have L1 := LongAt.more (b' := s.b ++ m0) (a' := a1) (c' := c1) R1 Z1 HL.out.low (by rw [List.length_append, List.map_append]; exact HO1.out) (by rw [List.length_append]; exact nb)
                          rw [List.length_append] at L1
                          exact .inr ⟨by go_num, a1, c1, s.b ++ m0, false, Lib.hid (L1.end_ false), Lib.hid (((HF3.out.step HFA.out (fun x o hx h => by have := (HL.out.lowb x h).1; omega)).setCell (fun h => by have := HL.out.low; omega) _).setCell (fun h => by have := HL.out.low; omega) _), Lib.hid (.inr ⟨HEN.out, m0, rfl⟩), Lib.hid (by rw [List.length_append]; omega)⟩
                        case measure => simp [intOf]

                  · have hm0i : ¬ (0 : Int) < ms.length := by omega
                    skip
                    go_wp2
                    go_roundw
                    case rel => exact .inr ⟨by go_num, la, lc, s.b, false, Lib.hid (HL.out.end_ false), Lib.hid (HF3.out.setCell (fun h => by have := HL.out.low; omega) _), Lib.hid (.inr ⟨HEN.out, [], by simp⟩), Lib.hid (by omega)⟩
                    case measure => simp [intOf]

              · have k1 : (s.ec != 0) = true := by simpa using hec
                clear hec
                go_wp2
                go_roundw
                case rel => exact .inr ⟨by go_num, la, lc, s.b, s.ended, HL, HF3, Lib.hid (.inl ⟨rfl, rfl⟩), Lib.hid (by omega)⟩
                case measure => simp [intOf]

          · have KW := Lib.hid ((HK.out.trans HF2.out).trans HFW.out)
            obtain ⟨p0, p1, p2, p3⟩ := HBX.out _ HFW.out
            have hzw : w.heap.size < wr.heap.size := Nat.lt_of_lt_of_le z2 HFW.out.size
            have hll := HLen.out
            have hgll := HLW.out.row.lt (by simp [strmC])
            obtain ⟨r, hr⟩ : ∃ r, r = saysM n A B s.b s.ended := ⟨_, rfl⟩
            obtain ⟨r', hr'⟩ : ∃ r', r' = saysM n A B b' e' := ⟨_, rfl⟩
            have hgw := grown_says HCK.out HG.out
            rw [← hr, ← hr'] at hgw
            obtain ⟨o, nd, er⟩ := r
            obtain ⟨o2, nd2, er2⟩ := r'
            obtain ⟨⟨t, ht⟩, hgd⟩ := hgw
            simp only at ht hgd
            have HR1 := Lib.hid hr.symm; have HR2 := Lib.hid hr'.symm
            clear hr hr'
            by_cases hnd : nd = -1
            · have hrr := hgd hnd
              subst hnd
              injection hrr with h1 h2
              injection h2 with h2 h3
              have h1 := h1.symm; have h3 := h3.symm
              subst h1; subst h2; subst h3
              clear hgd ht
              go_wp2_with (first
                | (go_at_call 13; refine (newM_yes n aA aB A B cA cB _ (at_no HA.out KW1.out) (at_no HB.out KW1.out) hlA hlB HFK.out (HG0.out.no (KW1.out))).mono ?_; rintro e5 w5 ⟨g2, F2, rfl, hg2, hr5, hf5⟩
                   have HR5 := Lib.hid hr5; have HF5 := Lib.hid hf5; have HG2 := Lib.hid hg2; clear hr5 hf5 hg2)
                | (go_at_call 13; refine (newM_yes n aA aB A B cA cB _ (at_no HA.out KW.out) (at_no HB.out KW.out) hlA hlB HFK.out (HG0.out.no (KW.out))).mono ?_; rintro e4 w4 ⟨g, F, rfl, hg, hr4, hf4⟩
                   have HR4 := Lib.hid hr4; have HF4 := Lib.hid hf4; have KW1 := Lib.hid (KW.out.trans hf4)
                   have x0 := (hf4.at.1 w.heap.size 0 hzw).trans p0; have x1 := (hf4.at.1 w.heap.size 1 hzw).trans p1; have x2 := (hf4.at.1 w.heap.size 2 hzw).trans p2; have x3 := (hf4.at.1 w.heap.size 3 hzw).trans p3; clear hr4 hf4)
                | (go_at_call 14; refine (drive_M g2 n A B HCK.out gl lo lcl a' c' b' e' s.ec s.es s.ei ca cc cuts F2 _ HR6.out (HLW6.out.row) (fun e => by have h5 := HG2.out _ e; have h6 := HF4.out.size; omega)
                      HLW6.out.bytes.1 (fun h0 x off e hF => by have h5 := HG2.out _ hF; have h6 := HF4.out.size; have h7 := HLW.out.bytes.2.2 x off e; omega) (by omega) HLW6.out.bytes.2.1
                      (at_no HC.out KW6.out) (fun h0 x off e hF => by obtain ⟨x', o', e', hr⟩ := HC.out (by simpa using h0); rw [e'] at e; injection e with e; injection e with e; subst e; have h1 := hr.lt (by simpa using h0); have h2 := KW1.out.size; have h5 := HG2.out _ hF; omega) (by omega)).mono ?_
                   rw [HR2.out]
                   rintro e7 w7 ⟨held', taken', s'', F4, rfl, h0', hH', hr7, hf7, _⟩
                   dsimp only [gotC]
                   have KW7 := Lib.hid (show Fr No w w7 from KW6.out.step hf7 (fun b o hb e => by have := HG2.out b e; have := KW1.out.size; omega)); clear hr7 hf7)
                | (go_at_call 14; refine (drive_M g n A B HCK.out ig ioff ci s.a s.c s.b s.ended s.ec s.es s.ei ca cc cuts F _ ((machM g n A B HCK.out).fr HR4.out HF5.out (fun _ _ _ x => x) (fun _ _ _ x => x))
                      (HROW.out.fr (KW1.out.trans HF5.out) (fun _ _ x => x)) (fun e => by have := KW.out.size; have := hg _ e; omega)
                      (at_no HSB.out (KW1.out.trans HF5.out)) (fun h0 x off e hF => by obtain ⟨x', o', e', hr⟩ := HSB.out (by simpa using h0); rw [e'] at e; injection e with e; injection e with e; subst e; have h1 := hr.lt (by simpa using h0); have h2 := KW.out.size; have h5 := hg _ hF; omega) (by omega) hsc
                      (at_no HC.out (KW1.out.trans HF5.out)) (fun h0 x off e hF => by obtain ⟨x', o', e', hr⟩ := HC.out (by simpa using h0); rw [e'] at e; injection e with e; injection e with e; subst e; have h1 := hr.lt (by simpa using h0); have h2 := KW.out.size; have h5 := hg _ hF; omega) (by omega)).mono ?_
                   rw [HR1.out]
                   rintro e6 w6 ⟨held, taken, s', F3, rfl, h0, hH, hr6, hf6, _⟩
                   have hgl4 := (machM g n A B HCK.out).lt HR4.out
                   have KW6 := Lib.hid (show Fr No w w6 from (KW1.out.trans HF5.out).step hf6 (fun b o hb e => by have := hg b e; have := KW.out.size; omega))
                   have HR6 := Lib.hid ((machM g2 n A B HCK.out).fr HR5.out hf6 (fun b o hb e => by have h1 := hgl4 b e; have h2 := HG2.out b hb; omega) (fun b o hb e => by have h1 := hg b e; have h2 := methM_lt _ hb; have h3 := HG0.out.lt; have h4 := KW.out.size; omega))
                   have f46 : Fr (InF F) wr w6 := (HF4.out.trans HF5.out).mono (fun _ _ _ x => x.elim) |>.trans hf6
                   have HLW6 := Lib.hid (HLW.out.keep f46 (fun y o hy => hg y hy)); clear hr6 hf6 f46 hgl4))
              have hbg := fun (W : World) => begins_any o [] W
              simp only [List.append_nil] at hbg
              have HBG := Lib.hid hbg; clear hbg
              have hb0 := fun (W : World) => begins_any [] [] W
              simp only [List.append_nil] at hb0
              have BG0 := Lib.hid hb0; clear hb0
              have KF8 := Lib.hid (show Fr No w ((w7.alloc (.cells (gotC o (-1) er held taken) 45)).alloc (.cells (gotC o (-1) er held' taken') 45)) from (KW7.out.alloc _).alloc _)
              have H24 := Lib.hid (fun (W : World) (f : Fr No ((w7.alloc (.cells (gotC o (-1) er held taken) 45)).alloc (.cells (gotC o (-1) er held' taken') 45)) W) => (show W.cell? ⟨w7.heap.size, 0, none⟩ = some (sv o) ∧ W.cell? ⟨w7.heap.size, 1, none⟩ = some (sv []) ∧ W.cell? ⟨w7.heap.size, 2, none⟩ = some (sv []) ∧ W.cell? ⟨w7.heap.size, 3, none⟩ = some (sv []) ∧ W.cell? ⟨w7.heap.size, 4, none⟩ = some (.int .i64 (-1)) ∧ W.cell? ⟨w7.heap.size, 5, none⟩ = some (.int .i64 er) ∧ W.cell? ⟨w7.heap.size + 1, 0, none⟩ = some (sv o) ∧ W.cell? ⟨w7.heap.size + 1, 1, none⟩ = some (sv []) ∧ W.cell? ⟨w7.heap.size + 1, 2, none⟩ = some (sv []) ∧ W.cell? ⟨w7.heap.size + 1, 3, none⟩ = some (sv []) ∧ W.cell? ⟨w7.heap.size + 1, 4, none⟩ = some (.int .i64 (-1)) ∧ W.cell? ⟨w7.heap.size + 1, 5, none⟩ = some (.int .i64 er) from
                have x1 := (box_at (((Fr.refl No _).alloc _).trans f)).1
                have x2 := (box_at f).1
                ⟨x1 0, x1 1, x1 2, x1 3, x1 4, x1 5, by have := x2 0; simpa [gotC] using this, by have := x2 1; simpa [gotC] using this, by have := x2 2; simpa [gotC] using this, by have := x2 3; simpa [gotC] using this, by have := x2 4; simpa [gotC] using this, by have := x2 5; simpa [gotC] using this⟩))
              go_loopw [19] (fun i W => ∃ q : Nat, q ≤ 4 ∧ i = .int .i64 q ∧ Hid (Fr No ((w7.alloc (.cells (gotC o (-1) er held taken) 45)).alloc (.cells (gotC o (-1) er held' taken') 45)) W)) (fun i _ => 4 - (intOf i).toNat)
              case atStart => exact ⟨0, by omega, rfl, Lib.hid (Fr.refl _ _)⟩
              case round =>
                obtain ⟨q, hq, rfl, HFQ⟩ := hrel
                obtain ⟨p0, p1, p2, p3, p4, p5, p6, p7, p8, p9, p10, p11⟩ := H24.out _ HFQ.out
                by_cases hlt : q < 4
                · have hqc : q = 0 ∨ q = 1 ∨ q = 2 ∨ q = 3 := by omega
                  rcases hqc with rfl | rfl | rfl | rfl
                  · go_wp2_with fail
                    go_quiet (first | (go_at_call 15; refine Calls.quiet_of_same (HBG.out _)))
                    go_wp2
                    go_roundw
                    case rel => exact ⟨1, by omega, rfl, Lib.hid (HFQ.out.drewN nq)⟩
                    case measure => simp [intOf]
                  all_goals
                    go_wp2_with fail
                    go_quiet (first | (go_at_call 15; refine Calls.quiet_of_same (BG0.out _)))
                    go_wp2
                    go_roundw
                    case rel => first | exact ⟨2, by omega, rfl, Lib.hid (HFQ.out.drewN nq)⟩ | exact ⟨3, by omega, rfl, Lib.hid (HFQ.out.drewN nq)⟩ | exact ⟨4, by omega, rfl, Lib.hid (HFQ.out.drewN nq)⟩
                    case measure => simp [intOf]
                · obtain rfl : q = 4 := by omega
                  go_wp2_with (first
                    | (go_at_call 11; refine (awake_any _ (HG0.out.no ((KF8.out.trans HFQ.out)))).mono ?_; rintro e9 w9 ⟨rfl, hf9⟩))
                  go_ret
                  exact ⟨rfl, (KF8.out.trans HFQ.out).trans hf9⟩

            · have k1 : (nd == -1) = false := by simpa using hnd
              have k2 : (nd != -1) = true := by simpa using hnd
              subst ht
              clear hgd hnd
              go_wp2_with (first
                | (go_at_call 13; refine (newM_yes n aA aB A B cA cB _ (at_no HA.out KW1.out) (at_no HB.out KW1.out) hlA hlB HFK.out (HG0.out.no (KW1.out))).mono ?_; rintro e5 w5 ⟨g2, F2, rfl, hg2, hr5, hf5⟩
                   have HR5 := Lib.hid hr5; have HF5 := Lib.hid hf5; have HG2 := Lib.hid hg2; clear hr5 hf5 hg2)
                | (go_at_call 13; refine (newM_yes n aA aB A B cA cB _ (at_no HA.out KW.out) (at_no HB.out KW.out) hlA hlB HFK.out (HG0.out.no (KW.out))).mono ?_; rintro e4 w4 ⟨g, F, rfl, hg, hr4, hf4⟩
                   have HR4 := Lib.hid hr4; have HF4 := Lib.hid hf4; have KW1 := Lib.hid (KW.out.trans hf4)
                   have x0 := (hf4.at.1 w.heap.size 0 hzw).trans p0; have x1 := (hf4.at.1 w.heap.size 1 hzw).trans p1; have x2 := (hf4.at.1 w.heap.size 2 hzw).trans p2; have x3 := (hf4.at.1 w.heap.size 3 hzw).trans p3; clear hr4 hf4)
                | (go_at_call 14; refine (drive_M g2 n A B HCK.out gl lo lcl a' c' b' e' s.ec s.es s.ei ca cc cuts F2 _ HR6.out (HLW6.out.row) (fun e => by have h5 := HG2.out _ e; have h6 := HF4.out.size; omega)
                      HLW6.out.bytes.1 (fun h0 x off e hF => by have h5 := HG2.out _ hF; have h6 := HF4.out.size; have h7 := HLW.out.bytes.2.2 x off e; omega) (by omega) HLW6.out.bytes.2.1
                      (at_no HC.out KW6.out) (fun h0 x off e hF => by obtain ⟨x', o', e', hr⟩ := HC.out (by simpa using h0); rw [e'] at e; injection e with e; injection e with e; subst e; have h1 := hr.lt (by simpa using h0); have h2 := KW1.out.size; have h5 := HG2.out _ hF; omega) (by omega)).mono ?_
                   rw [HR2.out]
                   rintro e7 w7 ⟨held', taken', s'', F4, rfl, h0', hH', hr7, hf7, _⟩
                   dsimp only [gotC]
                   have KW7 := Lib.hid (show Fr No w w7 from KW6.out.step hf7 (fun b o hb e => by have := HG2.out b e; have := KW1.out.size; omega)); clear hr7 hf7)
                | (go_at_call 14; refine (drive_M g n A B HCK.out ig ioff ci s.a s.c s.b s.ended s.ec s.es s.ei ca cc cuts F _ ((machM g n A B HCK.out).fr HR4.out HF5.out (fun _ _ _ x => x) (fun _ _ _ x => x))
                      (HROW.out.fr (KW1.out.trans HF5.out) (fun _ _ x => x)) (fun e => by have := KW.out.size; have := hg _ e; omega)
                      (at_no HSB.out (KW1.out.trans HF5.out)) (fun h0 x off e hF => by obtain ⟨x', o', e', hr⟩ := HSB.out (by simpa using h0); rw [e'] at e; injection e with e; injection e with e; subst e; have h1 := hr.lt (by simpa using h0); have h2 := KW.out.size; have h5 := hg _ hF; omega) (by omega) hsc
                      (at_no HC.out (KW1.out.trans HF5.out)) (fun h0 x off e hF => by obtain ⟨x', o', e', hr⟩ := HC.out (by simpa using h0); rw [e'] at e; injection e with e; injection e with e; subst e; have h1 := hr.lt (by simpa using h0); have h2 := KW.out.size; have h5 := hg _ hF; omega) (by omega)).mono ?_
                   rw [HR1.out]
                   rintro e6 w6 ⟨held, taken, s', F3, rfl, h0, hH, hr6, hf6, _⟩
                   have hgl4 := (machM g n A B HCK.out).lt HR4.out
                   have KW6 := Lib.hid (show Fr No w w6 from (KW1.out.trans HF5.out).step hf6 (fun b o hb e => by have := hg b e; have := KW.out.size; omega))
                   have HR6 := Lib.hid ((machM g2 n A B HCK.out).fr HR5.out hf6 (fun b o hb e => by have h1 := hgl4 b e; have h2 := HG2.out b hb; omega) (fun b o hb e => by have h1 := hg b e; have h2 := methM_lt _ hb; have h3 := HG0.out.lt; have h4 := KW.out.size; omega))
                   have f46 : Fr (InF F) wr w6 := (HF4.out.trans HF5.out).mono (fun _ _ _ x => x.elim) |>.trans hf6
                   have HLW6 := Lib.hid (HLW.out.keep f46 (fun y o hy => hg y hy)); clear hr6 hf6 f46 hgl4))
              have HBG := Lib.hid (fun (W : World) => begins_any o t W)
              have hb0 := fun (W : World) => begins_any [] [] W
              simp only [List.append_nil] at hb0
              have BG0 := Lib.hid hb0; clear hb0
              have KF8 := Lib.hid (show Fr No w ((w7.alloc (.cells (gotC o nd er held taken) 45)).alloc (.cells (gotC (o ++ t) nd2 er2 held' taken') 45)) from (KW7.out.alloc _).alloc _)
              have H24 := Lib.hid (fun (W : World) (f : Fr No ((w7.alloc (.cells (gotC o nd er held taken) 45)).alloc (.cells (gotC (o ++ t) nd2 er2 held' taken') 45)) W) => (show W.cell? ⟨w7.heap.size, 0, none⟩ = some (sv o) ∧ W.cell? ⟨w7.heap.size, 1, none⟩ = some (sv []) ∧ W.cell? ⟨w7.heap.size, 2, none⟩ = some (sv []) ∧ W.cell? ⟨w7.heap.size, 3, none⟩ = some (sv []) ∧ W.cell? ⟨w7.heap.size, 4, none⟩ = some (.int .i64 nd) ∧ W.cell? ⟨w7.heap.size, 5, none⟩ = some (.int .i64 er) ∧ W.cell? ⟨w7.heap.size + 1, 0, none⟩ = some (sv (o ++ t)) ∧ W.cell? ⟨w7.heap.size + 1, 1, none⟩ = some (sv []) ∧ W.cell? ⟨w7.heap.size + 1, 2, none⟩ = some (sv []) ∧ W.cell? ⟨w7.heap.size + 1, 3, none⟩ = some (sv []) ∧ W.cell? ⟨w7.heap.size + 1, 4, none⟩ = some (.int .i64 nd2) ∧ W.cell? ⟨w7.heap.size + 1, 5, none⟩ = some (.int .i64 er2) from
                have x1 := (box_at (((Fr.refl No _).alloc _).trans f)).1
                have x2 := (box_at f).1
                ⟨x1 0, x1 1, x1 2, x1 3, x1 4, x1 5, by have := x2 0; simpa [gotC] using this, by have := x2 1; simpa [gotC] using this, by have := x2 2; simpa [gotC] using this, by have := x2 3; simpa [gotC] using this, by have := x2 4; simpa [gotC] using this, by have := x2 5; simpa [gotC] using this⟩))
              go_loopw [19] (fun i W => ∃ q : Nat, q ≤ 4 ∧ i = .int .i64 q ∧ Hid (Fr No ((w7.alloc (.cells (gotC o nd er held taken) 45)).alloc (.cells (gotC (o ++ t) nd2 er2 held' taken') 45)) W)) (fun i _ => 4 - (intOf i).toNat)
              case atStart => exact ⟨0, by omega, rfl, Lib.hid (Fr.refl _ _)⟩
              case round =>
                obtain ⟨q, hq, rfl, HFQ⟩ := hrel
                obtain ⟨p0, p1, p2, p3, p4, p5, p6, p7, p8, p9, p10, p11⟩ := H24.out _ HFQ.out
                by_cases hlt : q < 4
                · have hqc : q = 0 ∨ q = 1 ∨ q = 2 ∨ q = 3 := by omega
                  rcases hqc with rfl | rfl | rfl | rfl
                  · go_wp2_with fail
                    go_quiet (first | (go_at_call 15; refine Calls.quiet_of_same (HBG.out _)))
                    go_wp2
                    go_roundw
                    case rel => exact ⟨1, by omega, rfl, Lib.hid (HFQ.out.drewN nq)⟩
                    case measure => simp [intOf]
                  all_goals
                    go_wp2_with fail
                    go_quiet (first | (go_at_call 15; refine Calls.quiet_of_same (BG0.out _)))
                    go_wp2
                    go_roundw
                    case rel => first | exact ⟨2, by omega, rfl, Lib.hid (HFQ.out.drewN nq)⟩ | exact ⟨3, by omega, rfl, Lib.hid (HFQ.out.drewN nq)⟩ | exact ⟨4, by omega, rfl, Lib.hid (HFQ.out.drewN nq)⟩
                    case measure => simp [intOf]
                · obtain rfl : q = 4 := by omega
                  go_wp2_with (first
                    | (go_at_call 11; refine (awake_any _ (HG0.out.no ((KF8.out.trans HFQ.out)))).mono ?_; rintro e9 w9 ⟨rfl, hf9⟩))
                  go_ret
                  exact ⟨rfl, (KF8.out.trans HFQ.out).trans hf9⟩

theorem walk_fieldsGrows (w : World) (hG : GM w) {v0 v1 v2 v3 v4 : Value} (k n : Int) (A B : List UInt8) (h : IsPar w v0 k n A B) (ss : List Strm) (hs : IsStrs w v1 ss) (ms : List (List UInt8)) (hm : IsP w v2 ms) (ends : List Bool) (he : IsBools w v3 ends) (cuts : List Int) (hc : IsInts w v4 cuts) : Calls Tryd.prog 3 #[v0, v1, v2, v3, v4] w (TruePost w) := by
  obtain ⟨aA, cA, aB, cB, rfl, _, hn, hA, hB, _⟩ := h
  obtain ⟨ai, ci, rfl, hat, hss⟩ := hs
  obtain ⟨am, cm, rfl, _, _, hm, hml⟩ := hm
  obtain ⟨ae, ce, rfl, he⟩ := he
  obtain ⟨ca, cc, rfl, hca⟩ := hc
  exact core_grows w hG k n aA aB A B cA cB ai ci ss ca cc cuts am cm ms ae ce ends hn.2 hA hB hat hss hca hm hml he
end Go.Proofs.YtjnebkoohimgjaaDoor
