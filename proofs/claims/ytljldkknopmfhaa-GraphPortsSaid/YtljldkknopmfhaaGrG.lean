/- Graphs, the document's words: may a duct be? -/
import Derived.Test.YtljldkknopmfhaaGrD
namespace Go.Proofs.Ytljldkknopmfhaa
open Go.RowKit

set_option maxHeartbeats 8000000 in
set_option maxRecDepth 100000 in
theorem duct_ref (w : World) (x : Gv) (hx : x.Ok w) (hsm : Sml x) (i : Nat) (hi : i < x.du.length) : Calls Try.prog 71 #[.agg #[.slice x.sa x.sp.length x.sc, .slice x.da x.du.length x.dc], .int .i64 i] w (RPost w (x.g.fits i)) := by
  have hdk : x.g.d i = x.du[i] := x.d_at hi
  have hfits : x.g.fits i = (portB (x.du[i]).frm x.sp.length && portB (x.du[i]).to x.sp.length && portB (x.du[i]).out (x.g.s (x.du[i]).frm.toNat).outs && portB (x.du[i]).inn (x.g.s (x.du[i]).to.toNat).ins &&
      decide (outAt (x.du.take i) (x.du[i]).frm (x.du[i]).out = -1) && decide (inAt (x.du.take i) (x.du[i]).to (x.du[i]).inn = -1)) := by
    unfold Gr.fits; rw [hdk, x.st_len]; rfl
  obtain ⟨gd, od, hda, hdr⟩ := (hx.fr ((Fr.refl No w).alloc (.cells #[.slice x.sa x.sp.length x.sc, .slice x.da x.du.length x.dc] 63))).du.flat dc_len (by decide) (by omega)
  obtain ⟨d0, d1, d2, d3, d4⟩ := dc_cells hdr hi
  have c1 := cell_block (heap_alloc_new w (.cells #[.slice x.sa x.sp.length x.sc, .slice x.da x.du.length x.dc] 63)) 1
  have c0 := cell_block (heap_alloc_new w (.cells #[.slice x.sa x.sp.length x.sc, .slice x.da x.du.length x.dc] 63)) 0
  have hii : (i : Int) < x.du.length := by omega
  have hi200 : (i : Int) < 200 := by have := hsm.d; omega
  have hn200 : (x.sp.length : Int) ≤ 200 := by have := hsm.s; omega
  have c2 : (w.alloc (.cells #[.slice x.sa x.sp.length x.sc, .slice x.da x.du.length x.dc] 63)).cell? ⟨w.heap.size, 1, none⟩ = some (.slice (some ⟨gd, od, none⟩) x.du.length x.dc) := by rw [c1, hda]; rfl
  have HDU := Lib.hid (fun (q : Nat) (hq : q < i) => show ∃ d, x.du[q]? = some d from ⟨_, List.getElem?_eq_getElem (by omega)⟩)
  have HX := Lib.hid hx; have HSM := Lib.hid hsm
  have HTK := Lib.hid (show ∀ d ∈ x.du.take i, ∃ q, ∃ h : q < x.du.length, q < i ∧ x.du[q] = d from fun d hd => by
    obtain ⟨q, hq, e⟩ := List.getElem_of_mem hd
    have h1 : q < i ∧ q < x.du.length := by simp at hq; omega
    exact ⟨q, h1.2, h1.1, by rw [← e]; simp⟩)
  have HMK := Lib.hid (show ∀ q (h : q < x.du.length), q < i → x.du[q] ∈ x.du.take i from fun q h hq => take_mem hq h)
  clear hx hsm hdr c1 hda hdk
  generalize x.du[i] = d at *
  obtain ⟨frm, out, dto, inn, cap⟩ := d
  dsimp only at *
  have HBX := Lib.hid (fun (W : World) (h : Fr No ((w.alloc (.cells #[.slice x.sa x.sp.length x.sc, .slice x.da x.du.length x.dc] 63)).alloc (.cells #[.int .i64 frm, .int .i64 out, .int .i64 dto, .int .i64 inn, .int .i64 cap] 72)) W) =>
    show (W.cell? ⟨w.heap.size, 0, none⟩ = some (.slice x.sa x.sp.length x.sc) ∧ W.cell? ⟨w.heap.size, 1, none⟩ = some (.slice x.da x.du.length x.dc)) ∧ W.cell? ⟨w.heap.size + 1, 0, none⟩ = some (.int .i64 frm) ∧ W.cell? ⟨w.heap.size + 1, 1, none⟩ = some (.int .i64 out) ∧ W.cell? ⟨w.heap.size + 1, 2, none⟩ = some (.int .i64 dto) ∧ W.cell? ⟨w.heap.size + 1, 3, none⟩ = some (.int .i64 inn) from by
    have b1 := box_block (w := w) (((Fr.refl No _).alloc (.cells #[.int .i64 frm, .int .i64 out, .int .i64 dto, .int .i64 inn, .int .i64 cap] 72)).trans h)
    have b2 := box_block h
    rw [show (w.alloc (.cells #[.slice x.sa x.sp.length x.sc, .slice x.da x.du.length x.dc] 63)).heap.size = w.heap.size + 1 from by simp] at b2
    exact ⟨⟨cell_block b1 0, cell_block b1 1⟩, cell_block b2 0, cell_block b2 1, cell_block b2 2, cell_block b2 3⟩)
  have K1 := Lib.hid (((Fr.refl No w).alloc (.cells #[.slice x.sa x.sp.length x.sc, .slice x.da x.du.length x.dc] 63)).alloc (.cells #[.int .i64 frm, .int .i64 out, .int .i64 dto, .int .i64 inn, .int .i64 cap] 72))
  have HPT := Lib.hid (fun (n p : Int) (W : World) => port_any n p W)
  by_cases hA : 0 ≤ frm ∧ frm < x.sp.length
  · obtain ⟨fn, rfl⟩ : ∃ fn : Nat, frm = fn := ⟨frm.toNat, by omega⟩
    have hfn : fn < x.sp.length := by omega
    have hfni : (fn : Int) < x.sp.length := hA.2
    have pA : portB fn x.sp.length = true := portB_yes hA.1 hA.2
    have PA := Lib.hid (HPT.out fn x.sp.length)
    rw [pA] at PA
    by_cases hB : 0 ≤ dto ∧ dto < x.sp.length
    · obtain ⟨tn, rfl⟩ : ∃ tn : Nat, dto = tn := ⟨dto.toNat, by omega⟩
      have htn : tn < x.sp.length := by omega
      have htni : (tn : Int) < x.sp.length := hB.2
      have pB : portB tn x.sp.length = true := portB_yes hB.1 hB.2
      have PB := Lib.hid (HPT.out tn x.sp.length)
      rw [pB] at PB
      rw [pA, pB, Int.toNat_natCast, Int.toNat_natCast, x.s_at hfn, x.s_at htn, Bool.true_and, Bool.true_and] at hfits
      have hm1 := List.getElem_mem hfn
      have hm2 := List.getElem_mem htn
      have HR1 := Lib.hid (fun (W : World) (h : Fr No w W) => srarity_any x.sp[fn] W ((HX.out.sp _ hm1).fr h) (HSM.out.b _ hm1))
      have HR2 := Lib.hid (fun (W : World) (h : Fr No w W) => srarity_any x.sp[tn] W ((HX.out.sp _ hm2).fr h) (HSM.out.b _ hm2))
      obtain ⟨gs, os, hsa, hsr⟩ := (HX.out.fr K1.out).st.flat sp_len (by decide) (by omega)
      have HC1 := Lib.hid (fun (W : World) (h : Fr No ((w.alloc (.cells #[.slice x.sa x.sp.length x.sc, .slice x.da x.du.length x.dc] 63)).alloc (.cells #[.int .i64 fn, .int .i64 out, .int .i64 tn, .int .i64 inn, .int .i64 cap] 72)) W) => sp_cells (hsr.fr h (fun _ _ y => y)) hfn)
      have HC2 := Lib.hid (fun (W : World) (h : Fr No ((w.alloc (.cells #[.slice x.sa x.sp.length x.sc, .slice x.da x.du.length x.dc] 63)).alloc (.cells #[.int .i64 fn, .int .i64 out, .int .i64 tn, .int .i64 inn, .int .i64 cap] 72)) W) => sp_cells (hsr.fr h (fun _ _ y => y)) htn)
      have HSA := Lib.hid hsa
      clear hsr hm1 hm2 hsa hA hB
      generalize x.sp[fn] = s1 at *
      generalize x.sp[tn] = s2 at *
      obtain ⟨⟨k1, n1, A1, B1⟩, aA1, cA1, aB1, cB1⟩ := s1
      obtain ⟨⟨k2, n2, A2, B2⟩, aA2, cA2, aB2, cB2⟩ := s2
      dsimp only at *
      generalize Stg.outs ⟨k1, n1, A1, B1⟩ = outs at *
      generalize Stg.ins ⟨k2, n2, A2, B2⟩ = ins at *
      generalize Stg.ins ⟨k1, n1, A1, B1⟩ = ins' at *
      generalize Stg.outs ⟨k2, n2, A2, B2⟩ = outs' at *
      generalize Stg.chk ⟨k1, n1, A1, B1⟩ = ch1 at *
      generalize Stg.chk ⟨k2, n2, A2, B2⟩ = ch2 at *
      have PC := Lib.hid (HPT.out out outs)
      have PD := Lib.hid (HPT.out inn ins)
      have HBS := Lib.hid (fun (W : World) (h : Fr No ((w.alloc (.cells #[.slice x.sa x.sp.length x.sc, .slice x.da x.du.length x.dc] 63)).alloc (.cells #[.int .i64 fn, .int .i64 out, .int .i64 tn, .int .i64 inn, .int .i64 cap] 72)) W) => show W.cell? ⟨w.heap.size, 0, none⟩ = some (.slice (some ⟨gs, os, none⟩) x.sp.length x.sc) from by rw [(HBX.out W h).1.1, HSA.out])
      cases pC : portB out outs with
      | false =>
        rw [pC] at PC hfits
        rw [Bool.false_and, Bool.false_and, Bool.false_and] at hfits
        have HE := Lib.hid hfits
        clear hfits pA pB pC
        go_enter Try.func71, Try.ntmps71
        go_wp2_with (first
          | (go_at_call_of 78 (Value.int IntKind.i64 (fn : Int)); refine (PA.out _).mono ?_; rintro e w6 ⟨rfl, rfl⟩)
          | (go_at_call_of 78 (Value.int IntKind.i64 (tn : Int)); refine (PB.out _).mono ?_; rintro e w6 ⟨rfl, rfl⟩
             obtain ⟨-, v0, v1, v2, v3⟩ := HBX.out _ (Fr.refl No _)
             have v4 := HBS.out _ (Fr.refl No _)
             obtain ⟨y0, y1, y2, y3⟩ := HC1.out _ (Fr.refl No _))
          | (go_at_call_of 31 (Value.agg #[.int .i64 k1, .int .i64 n1, .slice aA1 A1.length cA1, .slice aB1 B1.length cB1]); refine (HR1.out _ K1.out).mono ?_; rintro e w2 ⟨rfl, hf2⟩
             have HF2 := Lib.hid hf2
             clear v0 v1 v2 v3 v4 y0 y1 y2 y3 hf2
             obtain ⟨-, v0, v1, v2, v3⟩ := HBX.out _ HF2.out
             have v4 := HBS.out _ HF2.out
             obtain ⟨y0, y1, y2, y3⟩ := HC2.out _ HF2.out)
          | (go_at_call 31; refine (HR2.out _ (K1.out.trans HF2.out)).mono ?_; rintro e w3 ⟨rfl, hf3⟩
             have HF3 := Lib.hid (HF2.out.trans hf3)
             clear v0 v1 v2 v3 v4 y0 y1 y2 y3 hf3
             obtain ⟨-, v0, v1, v2, v3⟩ := HBX.out _ HF3.out)
          | (go_at_call_of 78 (Value.int IntKind.i64 out); refine (PC.out _).mono ?_; rintro e w6 ⟨rfl, rfl⟩))
        go_ret
        rw [HE.out]
        exact ⟨rfl, K1.out.trans HF3.out⟩
      | true =>
        rw [pC] at PC hfits
        rw [Bool.true_and] at hfits
        cases pD : portB inn ins with
        | false =>
          rw [pD] at PD hfits
          rw [Bool.false_and, Bool.false_and] at hfits
          have HE := Lib.hid hfits
          clear hfits pA pB pC pD
          go_enter Try.func71, Try.ntmps71
          go_wp2_with (first
            | (go_at_call_of 78 (Value.int IntKind.i64 (fn : Int)); refine (PA.out _).mono ?_; rintro e w6 ⟨rfl, rfl⟩)
            | (go_at_call_of 78 (Value.int IntKind.i64 (tn : Int)); refine (PB.out _).mono ?_; rintro e w6 ⟨rfl, rfl⟩
               obtain ⟨-, v0, v1, v2, v3⟩ := HBX.out _ (Fr.refl No _)
               have v4 := HBS.out _ (Fr.refl No _)
               obtain ⟨y0, y1, y2, y3⟩ := HC1.out _ (Fr.refl No _))
            | (go_at_call_of 31 (Value.agg #[.int .i64 k1, .int .i64 n1, .slice aA1 A1.length cA1, .slice aB1 B1.length cB1]); refine (HR1.out _ K1.out).mono ?_; rintro e w2 ⟨rfl, hf2⟩
               have HF2 := Lib.hid hf2
               clear v0 v1 v2 v3 v4 y0 y1 y2 y3 hf2
               obtain ⟨-, v0, v1, v2, v3⟩ := HBX.out _ HF2.out
               have v4 := HBS.out _ HF2.out
               obtain ⟨y0, y1, y2, y3⟩ := HC2.out _ HF2.out)
            | (go_at_call 31; refine (HR2.out _ (K1.out.trans HF2.out)).mono ?_; rintro e w3 ⟨rfl, hf3⟩
               have HF3 := Lib.hid (HF2.out.trans hf3)
               clear v0 v1 v2 v3 v4 y0 y1 y2 y3 hf3
               obtain ⟨-, v0, v1, v2, v3⟩ := HBX.out _ HF3.out)
            | (go_at_call_of 78 (Value.int IntKind.i64 out); refine (PC.out _).mono ?_; rintro e w6 ⟨rfl, rfl⟩)
            | (go_at_call_of 78 (Value.int IntKind.i64 inn); refine (PD.out _).mono ?_; rintro e w6 ⟨rfl, rfl⟩))
          go_ret
          rw [HE.out]
          exact ⟨rfl, K1.out.trans HF3.out⟩
        | true =>
          rw [pD] at PD hfits
          rw [Bool.true_and] at hfits
          have HFT := Lib.hid hfits
          clear hfits pA pB pC pD
          go_enter Try.func71, Try.ntmps71
          go_wp2_with (first
            | (go_at_call_of 78 (Value.int IntKind.i64 (fn : Int)); refine (PA.out _).mono ?_; rintro e w6 ⟨rfl, rfl⟩)
            | (go_at_call_of 78 (Value.int IntKind.i64 (tn : Int)); refine (PB.out _).mono ?_; rintro e w6 ⟨rfl, rfl⟩
               obtain ⟨-, v0, v1, v2, v3⟩ := HBX.out _ (Fr.refl No _)
               have v4 := HBS.out _ (Fr.refl No _)
               obtain ⟨y0, y1, y2, y3⟩ := HC1.out _ (Fr.refl No _))
            | (go_at_call_of 31 (Value.agg #[.int .i64 k1, .int .i64 n1, .slice aA1 A1.length cA1, .slice aB1 B1.length cB1]); refine (HR1.out _ K1.out).mono ?_; rintro e w2 ⟨rfl, hf2⟩
               have HF2 := Lib.hid hf2
               clear v0 v1 v2 v3 v4 y0 y1 y2 y3 hf2
               obtain ⟨-, v0, v1, v2, v3⟩ := HBX.out _ HF2.out
               have v4 := HBS.out _ HF2.out
               obtain ⟨y0, y1, y2, y3⟩ := HC2.out _ HF2.out)
            | (go_at_call 31; refine (HR2.out _ (K1.out.trans HF2.out)).mono ?_; rintro e w3 ⟨rfl, hf3⟩
               have HF3 := Lib.hid (HF2.out.trans hf3)
               clear v0 v1 v2 v3 v4 y0 y1 y2 y3 hf3
               obtain ⟨-, v0, v1, v2, v3⟩ := HBX.out _ HF3.out)
            | (go_at_call_of 78 (Value.int IntKind.i64 out); refine (PC.out _).mono ?_; rintro e w6 ⟨rfl, rfl⟩)
            | (go_at_call_of 78 (Value.int IntKind.i64 inn); refine (PD.out _).mono ?_; rintro e w6 ⟨rfl, rfl⟩))
          clear c2 d0 d1 d2 d3 d4
          go_loopw [12] (fun q wr => ∃ k : Nat, k ≤ i ∧ q = .int .i64 k ∧ Hid (Fr No ((w.alloc (.cells #[.slice x.sa x.sp.length x.sc, .slice x.da x.du.length x.dc] 63)).alloc (.cells #[.int .i64 fn, .int .i64 out, .int .i64 tn, .int .i64 inn, .int .i64 cap] 72)) wr) ∧ Hid (∀ p (h : p < x.du.length), p < k → ¬ ((x.du[p]).frm = (fn : Int) ∧ (x.du[p]).out = out) ∧ ¬ ((x.du[p]).to = (tn : Int) ∧ (x.du[p]).inn = inn))) (fun q _ => i - (intOf q).toNat)
          case atStart => exact ⟨0, Nat.zero_le _, rfl, HF3, Lib.hid (fun p _ hp => absurd hp (by omega))⟩
          case round =>
            obtain ⟨k, hk, rfl, HFy, HQ⟩ := hrel
            clear HF3
            by_cases hlt : k < i
            · obtain ⟨⟨u0, u1⟩, v0, v1, v2, v3⟩ := HBX.out _ HFy.out
              obtain ⟨gd', od', hda', hdr'⟩ := (HX.out.fr (K1.out.trans HFy.out)).du.flat dc_len (by decide) (by omega)
              obtain ⟨y0, y1, y2, y3, -⟩ := dc_cells hdr' (show k < x.du.length by omega)
              have hki : (k : Int) < i := by omega
              have hkd : (k : Int) < x.du.length := by omega
              have hmk := HMK.out k (by omega) hlt
              have HB1 := Lib.hid (show (x.du[k]'(by omega)).frm = (fn : Int) ∧ (x.du[k]'(by omega)).out = out → x.g.fits i = false from fun h => by
                rw [HFT.out]
                have : outAt (x.du.take i) fn out ≠ -1 := fun e => by have := outP_no.1 (idx_none.1 e _ hmk); exact this h
                simp [this])
              have HB2 := Lib.hid (show (x.du[k]'(by omega)).to = (tn : Int) ∧ (x.du[k]'(by omega)).inn = inn → x.g.fits i = false from fun h => by
                rw [HFT.out]
                have : inAt (x.du.take i) tn inn ≠ -1 := fun e => by have := inP_no.1 (idx_none.1 e _ hmk); exact this h
                simp [this])
              have HNX := Lib.hid (show ¬ ((x.du[k]'(by omega)).frm = (fn : Int) ∧ (x.du[k]'(by omega)).out = out) → ¬ ((x.du[k]'(by omega)).to = (tn : Int) ∧ (x.du[k]'(by omega)).inn = inn) → ∀ p (h : p < x.du.length), p < k + 1 → ¬ ((x.du[p]).frm = (fn : Int) ∧ (x.du[p]).out = out) ∧ ¬ ((x.du[p]).to = (tn : Int) ∧ (x.du[p]).inn = inn) from fun h1 h2 p hp hpk => by
                by_cases e : p = k
                · subst e; exact ⟨h1, h2⟩
                · exact HQ.out p hp (by omega))
              rw [hda'] at u1
              clear hda' hdr' hmk HQ
              generalize x.du[k]'(by omega) = dd at *
              obtain ⟨f', o', t', n', c'⟩ := dd
              dsimp only at *
              by_cases h1 : f' = (fn : Int)
              · have b1 : (f' == (fn : Int)) = true := by simpa using h1
                by_cases h2 : o' = out
                · have b2 : (o' == out) = true := by simpa using h2
                  have HE := Lib.hid (HB1.out ⟨h1, h2⟩)
                  clear h1 h2
                  go_wp2_with fail
                  go_quiet (fail)
                  go_wp2
                  go_ret
                  rw [HE.out]
                  exact ⟨rfl, (K1.out.trans HFy.out).drewN nq⟩
                · have b2 : (o' == out) = false := by simpa using h2
                  by_cases h3 : t' = (tn : Int)
                  · have b3 : (t' == (tn : Int)) = true := by simpa using h3
                    by_cases h4 : n' = inn
                    · have b4 : (n' == inn) = true := by simpa using h4
                      have HE := Lib.hid (HB2.out ⟨h3, h4⟩)
                      clear h1 h2 h3 h4
                      go_wp2_with fail
                      go_quiet (fail)
                      go_wp2
                      go_ret
                      rw [HE.out]
                      exact ⟨rfl, (K1.out.trans HFy.out).drewN nq⟩
                    · have b4 : (n' == inn) = false := by simpa using h4
                      have HE := Lib.hid (HNX.out (fun h => h2 h.2) (fun h => h4 h.2))
                      clear h1 h2 h3 h4
                      go_wp2_with fail
                      go_quiet (fail)
                      go_wp2
                      go_roundw
                      case rel => exact ⟨k + 1, by omega, by go_num, Lib.hid (HFy.out.drewN nq), HE⟩
                      case measure => simp [intOf]; omega
                  · have b3 : (t' == (tn : Int)) = false := by simpa using h3
                    have HE := Lib.hid (HNX.out (fun h => h2 h.2) (fun h => h3 h.1))
                    clear h1 h2 h3
                    go_wp2_with fail
                    go_quiet (fail)
                    go_wp2
                    go_roundw
                    case rel => exact ⟨k + 1, by omega, by go_num, Lib.hid (HFy.out.drewN nq), HE⟩
                    case measure => simp [intOf]; omega
              · have b1 : (f' == (fn : Int)) = false := by simpa using h1
                by_cases h3 : t' = (tn : Int)
                · have b3 : (t' == (tn : Int)) = true := by simpa using h3
                  by_cases h4 : n' = inn
                  · have b4 : (n' == inn) = true := by simpa using h4
                    have HE := Lib.hid (HB2.out ⟨h3, h4⟩)
                    clear h1 h3 h4
                    go_wp2_with fail
                    go_quiet (fail)
                    go_wp2
                    go_ret
                    rw [HE.out]
                    exact ⟨rfl, (K1.out.trans HFy.out).drewN nq⟩
                  · have b4 : (n' == inn) = false := by simpa using h4
                    have HE := Lib.hid (HNX.out (fun h => h1 h.1) (fun h => h4 h.2))
                    clear h1 h3 h4
                    go_wp2_with fail
                    go_quiet (fail)
                    go_wp2
                    go_roundw
                    case rel => exact ⟨k + 1, by omega, by go_num, Lib.hid (HFy.out.drewN nq), HE⟩
                    case measure => simp [intOf]; omega
                · have b3 : (t' == (tn : Int)) = false := by simpa using h3
                  have HE := Lib.hid (HNX.out (fun h => h1 h.1) (fun h => h3 h.1))
                  clear h1 h3
                  go_wp2_with fail
                  go_quiet (fail)
                  go_wp2
                  go_roundw
                  case rel => exact ⟨k + 1, by omega, by go_num, Lib.hid (HFy.out.drewN nq), HE⟩
                  case measure => simp [intOf]; omega
            · obtain rfl : k = i := by omega
              have HE := Lib.hid (show x.g.fits k = true from by
                rw [HFT.out]
                have h1 : outAt (x.du.take k) fn out = -1 := idx_none.2 fun d hd => by
                  obtain ⟨q, h, hq, rfl⟩ := HTK.out d hd
                  exact outP_no.2 (HQ.out q h hq).1
                have h2 : inAt (x.du.take k) tn inn = -1 := idx_none.2 fun d hd => by
                  obtain ⟨q, h, hq, rfl⟩ := HTK.out d hd
                  exact inP_no.2 (HQ.out q h hq).2
                simp [h1, h2])
              go_wp2
              go_ret
              rw [HE.out]
              exact ⟨rfl, K1.out.trans HFy.out⟩
    · have pB : portB dto x.sp.length = false := by simp only [portB, decide_eq_false_iff_not]; exact hB
      have PB := Lib.hid (HPT.out dto x.sp.length)
      rw [pB] at PB
      rw [pB, Bool.and_false, Bool.false_and, Bool.false_and, Bool.false_and, Bool.false_and] at hfits
      have HE := Lib.hid hfits
      clear hfits hA hB pA pB
      go_enter Try.func71, Try.ntmps71
      go_wp2_with (first
        | (go_at_call_of 78 (Value.int IntKind.i64 (fn : Int)); refine (PA.out _).mono ?_; rintro e w6 ⟨rfl, rfl⟩)
        | (go_at_call_of 78 (Value.int IntKind.i64 dto); refine (PB.out _).mono ?_; rintro e w6 ⟨rfl, rfl⟩))
      go_ret
      rw [HE.out]
      exact ⟨rfl, K1.out⟩
  · have pA : portB frm x.sp.length = false := by simp only [portB, decide_eq_false_iff_not]; exact hA
    have PA := Lib.hid (HPT.out frm x.sp.length)
    rw [pA] at PA
    rw [pA, Bool.false_and, Bool.false_and, Bool.false_and, Bool.false_and, Bool.false_and] at hfits
    have HE := Lib.hid hfits
    clear hfits hA pA
    go_enter Try.func71, Try.ntmps71
    go_wp2_with (first
      | (go_at_call_of 78 (Value.int IntKind.i64 frm); refine (PA.out _).mono ?_; rintro e w6 ⟨rfl, rfl⟩))
    go_ret
    rw [HE.out]
    exact ⟨rfl, K1.out⟩
end Go.Proofs.Ytljldkknopmfhaa
