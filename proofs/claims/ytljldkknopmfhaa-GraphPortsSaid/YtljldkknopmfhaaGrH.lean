/- Graphs, the document's words: Reaches, Check. -/
import Derived.Test.YtljldkknopmfhaaGrG
import Derived.Test.YtljldkknopmfhaaGrC
namespace Go.Proofs.Ytljldkknopmfhaa
open Go.RowKit

/-- The memory of Reaches. -/
structure RB (w : World) (x : Gv) (S : Nat → Bool) (W : World) : Prop where
  m : W.heap[w.heap.size + 1]? = some (.cells (mC S) 107 (0, 0))
  gb : W.heap[w.heap.size]? = some (.cells #[.slice x.sa x.sp.length x.sc, .slice x.da x.du.length x.dc] 63 (0, 0))
  fr : Fr No w W
theorem RB.mark {w W : World} {x : Gv} {S : Nat → Bool} (h : RB w x S W) (k : Nat) : RB w x (setB S k) (W.setCell ⟨w.heap.size + 1, k, none⟩ (.bool true)) := by
  have hf := frSet W (w.heap.size + 1) k (.bool true)
  refine ⟨?_, (hf.block _ (heap_lt h.gb) (fun o e => by have := e.1; omega)).trans h.gb, h.fr.setCell (fun hb => absurd hb (by omega)) _⟩
  have := block_set (k := k) h.m (.bool true)
  rw [mC_set] at this
  exact this
theorem rb_start (w : World) (x : Gv) : RB w x (fun _ => false) ((w.alloc (.cells #[.slice x.sa x.sp.length x.sc, .slice x.da x.du.length x.dc] 63)).alloc (.cells #[.bool false, .bool false, .bool false, .bool false, .bool false, .bool false, .bool false, .bool false, .bool false, .bool false, .bool false, .bool false, .bool false, .bool false, .bool false, .bool false] 107)) := by
  refine ⟨?_, box_block ((Fr.refl No _).alloc _), ((Fr.refl No w).alloc _).alloc _⟩
  have := heap_alloc_new (w.alloc (.cells #[.slice x.sa x.sp.length x.sc, .slice x.da x.du.length x.dc] 63)) (.cells (mC fun _ => false) 107)
  rw [show (w.alloc (.cells #[.slice x.sa x.sp.length x.sc, .slice x.da x.du.length x.dc] 63)).heap.size = w.heap.size + 1 from by simp] at this
  exact this
set_option maxHeartbeats 4000000 in
set_option maxRecDepth 100000 in
theorem reaches_ref (w : World) (x : Gv) (hx : x.Ok w) (hl : x.g.Laid) (n : Nat) (hn : n < x.sp.length) : Calls Try.prog 73 #[.agg #[.slice x.sa x.sp.length x.sc, .slice x.da x.du.length x.dc], .int .i64 n, .int .i64 n] w (RPost w (x.g.roundB n)) := by
  have hns : x.sp.length ≤ 16 := by have := hl.ns; rwa [x.st_len] at this
  have hnd : x.du.length ≤ 64 := by have := hl.nd; rwa [x.du_len] at this
  have hni : (n : Int) < 16 := by omega
  have HEN := Lib.hid (fun d (hd : d ∈ x.du) => hl.ends d hd)
  have HX := Lib.hid hx; have HLD := Lib.hid hl
  have HS := Lib.hid (rb_start w x)
  clear hx hl
  have hdi : (x.du.length : Int) ≤ 64 := by omega
  go_enter Try.func73, Try.ntmps73
  go_wp2
  generalize (w.alloc (.cells #[.slice x.sa x.sp.length x.sc, .slice x.da x.du.length x.dc] 63)).alloc (.cells #[.bool false, .bool false, .bool false, .bool false, .bool false, .bool false, .bool false, .bool false, .bool false, .bool false, .bool false, .bool false, .bool false, .bool false, .bool false, .bool false] 107) = w1 at *
  go_loopw [8] (fun i wr => ∃ k : Nat, k ≤ x.du.length ∧ i = .int .i64 k ∧ Hid (∃ S, RFst x.g n k S ∧ RB w x S wr)) (fun i _ => x.du.length - (intOf i).toNat)
  case atStart => exact ⟨0, Nat.zero_le _, rfl, Lib.hid ⟨_, rfst_start x.g n, HS.out⟩⟩
  case round =>
    obtain ⟨k, hk, rfl, HK⟩ := hrel
    clear HS
    obtain ⟨S, hS, hR⟩ := HK.out
    have HSS := Lib.hid hS; have HR := Lib.hid hR
    have c1 := cell_block hR.gb 1
    clear hS hR HK
    by_cases hlt : k < x.du.length
    · obtain ⟨gd, od, hda, hdr⟩ := (HX.out.fr HR.out.fr).du.flat dc_len (by decide) (by omega)
      obtain ⟨d0, -, d2, -, -⟩ := dc_cells hdr hlt
      obtain ⟨⟨e1, e2⟩, e3, e4⟩ := HEN.out _ (List.getElem_mem hlt)
      have hdk : x.g.d k = x.du[k] := x.d_at hlt
      have hskip := fun (h : (x.du[k]).frm ≠ n) => HSS.out.skip (by rw [hdk]; exact h)
      have hmark := fun (h : (x.du[k]).frm = n) => HSS.out.mark (by rw [hdk]; exact h) (by rw [hdk]; exact e3)
      rw [hdk] at hmark
      have HSK := Lib.hid hskip; have HMK := Lib.hid hmark
      have hki : (k : Int) < x.du.length := by omega
      have c2 : wr.cell? ⟨w.heap.size, 1, none⟩ = some (.slice (some ⟨gd, od, none⟩) x.du.length x.dc) := by rw [c1, hda]; rfl
      rw [x.st_len] at e2 e4
      clear hskip hmark hdr hda hdk c1 e1 e2
      generalize x.du[k] = d at *
      obtain ⟨frm, dout, dto, dinn, dcap⟩ := d
      dsimp only at *
      obtain ⟨tn, rfl⟩ : ∃ tn : Nat, dto = tn := ⟨dto.toNat, by omega⟩
      rw [Int.toNat_natCast] at HMK
      have hti : (tn : Int) < 16 := by omega
      by_cases h1 : frm = n
      · have b1 : (frm == (n : Int)) = true := by simpa using h1
        have c3 : wr.cell? ⟨w.heap.size + 1, tn, none⟩ = some (.bool (S tn)) := by rw [cell_block HR.out.m]; exact tabC_get _ (by omega)
        have c4 := frozen_block HR.out.m tn
        have HN := Lib.hid (HMK.out h1); have HR2 := Lib.hid (HR.out.mark tn)
        clear h1
        go_wp2
        go_roundw
        case rel => exact ⟨k + 1, by omega, by go_num, Lib.hid ⟨_, HN.out, HR2.out⟩⟩
        case measure => simp [intOf]; omega
      · have b1 : (frm == (n : Int)) = false := by simpa using h1
        have HN := Lib.hid (HSK.out h1)
        clear h1
        go_wp2
        go_roundw
        case rel => exact ⟨k + 1, by omega, by go_num, Lib.hid ⟨_, HN.out, HR.out⟩⟩
        case measure => simp [intOf]; omega
    · obtain rfl : k = x.du.length := by omega
      have HM := Lib.hid (RFst.marks HSS.out HLD.out)
      clear HSS
      go_wp2
      clear c1
      go_loopw [9] (fun i wy => ∃ r : Nat, r ≤ 16 ∧ i = .int .i64 r ∧ Hid (∃ S, Marks x.g n r S ∧ RB w x S wy)) (fun i _ => 16 - (intOf i).toNat)
      case atStart => exact ⟨0, Nat.zero_le _, rfl, Lib.hid ⟨S, HM.out, HR.out⟩⟩
      case round =>
        obtain ⟨r, hr, rfl, HK⟩ := hrel
        clear HM HR
        obtain ⟨S0, hM, hR⟩ := HK.out
        have HM := Lib.hid hM; have HR := Lib.hid hR
        clear hM hR HK
        by_cases hlr : r < 16
        · have hri : (r : Int) < 16 := by omega
          go_wp2
          go_loopw [10] (fun i wz => ∃ q : Nat, q ≤ x.du.length ∧ i = .int .i64 q ∧ Hid (∃ S, RIn x.g n S0 S q ∧ RB w x S wz)) (fun i _ => x.du.length - (intOf i).toNat)
          case atStart => exact ⟨0, Nat.zero_le _, rfl, Lib.hid ⟨S0, rin_start HM.out, HR.out⟩⟩
          case round =>
            obtain ⟨q, hq, rfl, HK⟩ := hrel
            clear HR
            obtain ⟨S, hI, hR⟩ := HK.out
            have HI := Lib.hid hI; have HR := Lib.hid hR
            have c1 := cell_block hR.gb 1
            clear hI hR HK
            by_cases hlq : q < x.du.length
            · obtain ⟨gd, od, hda, hdr⟩ := (HX.out.fr HR.out.fr).du.flat dc_len (by decide) (by omega)
              obtain ⟨d0, -, d2, -, -⟩ := dc_cells hdr hlq
              obtain ⟨⟨e1, e2⟩, e3, e4⟩ := HEN.out _ (List.getElem_mem hlq)
              have hdk : x.g.d q = x.du[q] := x.d_at hlq
              have hskip := fun (h : S (x.du[q]).frm.toNat = false) => HI.out.skip (by rw [hdk]; exact h)
              have hmark := fun (h : S (x.du[q]).frm.toNat = true) => HI.out.mark (by rw [x.du_len]; exact hlq) (by rw [hdk]; exact e1) (by rw [hdk]; exact e3) (by rw [hdk]; exact h)
              rw [hdk] at hmark
              have HSK := Lib.hid hskip; have HMK := Lib.hid hmark
              have hqi : (q : Int) < x.du.length := by omega
              rename_i wz _
              have c2 : (World.cell? _ ⟨w.heap.size, 1, none⟩) = some (.slice (some ⟨gd, od, none⟩) x.du.length x.dc) := c1.trans (by rw [hda]; rfl)
              rw [x.st_len] at e2 e4
              clear hskip hmark hdr hda hdk c1
              generalize x.du[q] = d at *
              obtain ⟨frm, dout, dto, dinn, dcap⟩ := d
              dsimp only at *
              obtain ⟨fn, rfl⟩ : ∃ fn : Nat, frm = fn := ⟨frm.toNat, by omega⟩
              obtain ⟨tn, rfl⟩ : ∃ tn : Nat, dto = tn := ⟨dto.toNat, by omega⟩
              rw [Int.toNat_natCast, Int.toNat_natCast] at HMK
              rw [Int.toNat_natCast] at HSK
              have hfi : (fn : Int) < 16 := by omega
              have hti : (tn : Int) < 16 := by omega
              have c5 := (cell_block HR.out.m fn).trans (tabC_get (fun i => .bool (S i)) (by omega : fn < 16))
              cases hf : S fn with
              | true =>
                rw [hf] at c5
                have c3 := (cell_block HR.out.m tn).trans (tabC_get (fun i => .bool (S i)) (by omega : tn < 16))
                have c4 := frozen_block HR.out.m tn
                have HN := Lib.hid (HMK.out hf); have HR2 := Lib.hid (HR.out.mark tn)
                clear hf
                go_wp2
                go_roundw
                case rel => exact ⟨q + 1, by omega, by go_num, Lib.hid ⟨_, HN.out, HR2.out⟩⟩
                case measure => simp [intOf]; omega
              | false =>
                rw [hf] at c5
                have HN := Lib.hid (HSK.out hf)
                clear hf
                go_wp2
                go_roundw
                case rel => exact ⟨q + 1, by omega, by go_num, Lib.hid ⟨_, HN.out, HR.out⟩⟩
                case measure => simp [intOf]; omega
            · obtain rfl : q = x.du.length := by omega
              have HN := Lib.hid (HI.out.round HM.out HLD.out)
              go_wp2
              go_roundw
              case rel => exact ⟨r + 1, by omega, by go_num, Lib.hid ⟨_, HN.out, HR.out⟩⟩
              case measure => simp [intOf]; omega
        · obtain rfl : r = 16 := by omega
          have c5 := (cell_block HR.out.m n).trans (tabC_get (fun i => .bool (S0 i)) (by omega : n < 16))
          have HE := Lib.hid (show S0 n = x.g.roundB n from by rw [Bool.eq_iff_iff, roundB_iff]; exact HM.out.last n)
          rw [HE.out] at c5
          go_wp2
          go_ret
          exact ⟨rfl, HR.out.fr⟩
def RChk (w : World) (x : Gv) (e : Ending) (w' : World) : Prop := e = .returned (.tuple #[.int .i64 x.g.check.1, .int .i64 x.g.check.2]) ∧ Fr No w w'
theorem rchk_at {w W : World} {x : Gv} {a b : Int} (h : x.g.check = (a, b)) (f : Fr No w W) : RChk w x (.returned (.tuple #[.int .i64 a, .int .i64 b])) W := ⟨by rw [h], f⟩
set_option maxHeartbeats 8000000 in
set_option maxRecDepth 100000 in
theorem check_ref (w : World) (x : Gv) (hx : x.Ok w) (hsm : Sml x) : Calls Try.prog 45 #[.agg #[.slice x.sa x.sp.length x.sc, .slice x.da x.du.length x.dc]] w (RChk w x) := by
  have HXB := Lib.hid (fun (W : World) (h : Fr No (w.alloc (.cells #[.slice x.sa x.sp.length x.sc, .slice x.da x.du.length x.dc] 63)) W) => hx.fr (((Fr.refl No w).alloc _).trans h))
  have HB := Lib.hid (fun (W : World) (h : Fr No (w.alloc (.cells #[.slice x.sa x.sp.length x.sc, .slice x.da x.du.length x.dc] 63)) W) => show W.cell? ⟨w.heap.size, 0, none⟩ = some (.slice x.sa x.sp.length x.sc) ∧ W.cell? ⟨w.heap.size, 1, none⟩ = some (.slice x.da x.du.length x.dc) from ⟨cell_block (box_block h) 0, cell_block (box_block h) 1⟩)
  have K0 := Lib.hid ((Fr.refl No w).alloc (.cells #[.slice x.sa x.sp.length x.sc, .slice x.da x.du.length x.dc] 63))
  have HR := Lib.hid (Fr.refl No (w.alloc (.cells #[.slice x.sa x.sp.length x.sc, .slice x.da x.du.length x.dc] 63)))
  obtain ⟨c0, c1⟩ := HB.out _ HR.out
  by_cases h1 : 16 < x.sp.length
  · have HE := Lib.hid (rchk_at (x := x) (check_laidAt (laidAt_many (.inl (by rw [x.st_len]; exact h1)))) K0.out)
    have h1i : (16 : Int) < x.sp.length := by omega
    clear hx hsm
    go_enter Try.func45, Try.ntmps45
    go_wp2
    go_ret2
    exact HE.out
  by_cases h2 : 64 < x.du.length
  · have HE := Lib.hid (rchk_at (x := x) (check_laidAt (laidAt_many (.inr (by rw [x.du_len]; exact h2)))) K0.out)
    have h1i : ¬ (16 : Int) < x.sp.length := by omega
    have h2i : (64 : Int) < x.du.length := by omega
    clear hx hsm
    go_enter Try.func45, Try.ntmps45
    go_wp2
    go_ret2
    exact HE.out
  have HP0 := Lib.hid (show x.g.P0 from ⟨by rw [x.st_len]; omega, by rw [x.du_len]; omega⟩)
  have h1i : ¬ (16 : Int) < x.sp.length := by omega
  have h2i : ¬ (64 : Int) < x.du.length := by omega
  have HSM := Lib.hid hsm; have HX := Lib.hid hx
  clear hx hsm
  go_enter Try.func45, Try.ntmps45
  go_wp2
  clear c0 c1
  go_loopw [4] (fun i wr => ∃ k : Nat, k ≤ x.sp.length ∧ i = .int .i64 k ∧ Hid (Fr No (w.alloc (.cells #[.slice x.sa x.sp.length x.sc, .slice x.da x.du.length x.dc] 63)) wr) ∧ Hid (∀ j, j < k → x.g.stBad j = 0)) (fun i _ => x.sp.length - (intOf i).toNat)
  case atStart => exact ⟨0, Nat.zero_le _, rfl, HR, Lib.hid (fun j hj => absurd hj (by omega))⟩
  case round =>
    obtain ⟨k, hk, rfl, HF, HOK⟩ := hrel
    clear HR
    obtain ⟨c0, c1⟩ := HB.out _ HF.out
    by_cases hlt : k < x.sp.length
    · obtain ⟨gs, os, hsa, hrow⟩ := (HXB.out _ HF.out).st.flat sp_len (by decide) (by omega)
      obtain ⟨s0, s1, s2, s3⟩ := sp_cells hrow hlt
      have hmem := List.getElem_mem hlt
      have HC := Lib.hid (srcheck_any x.sp[k] wr ((HXB.out _ HF.out).sp _ hmem) (HSM.out.b _ hmem))
      have HBD := Lib.hid (show x.g.stBad k = (x.sp[k]).s.chk from by unfold Gr.stBad; rw [x.s_at hlt])
      have hki : (k : Int) < x.sp.length := by omega
      have c2 : wr.cell? ⟨w.heap.size, 0, none⟩ = some (.slice (some ⟨gs, os, none⟩) x.sp.length x.sc) := c0.trans (by rw [hsa])
      clear hrow hmem hsa c0 c1
      generalize x.sp[k] = p at *
      obtain ⟨⟨pk, pn, pA, pB⟩, aA, cA, aB, cB⟩ := p
      dsimp only at *
      generalize Stg.chk ⟨pk, pn, pA, pB⟩ = ch at *
      by_cases hc : ch = 0
      · subst hc
        go_wp2_with (go_at_call 28; refine HC.out.mono ?_; rintro e w2 ⟨rfl, hf2⟩; have HF2 := Lib.hid (HF.out.trans hf2); clear hf2)
        go_roundw
        case rel => exact ⟨k + 1, by omega, by go_num, HF2, Lib.hid fun j hj => (by
          by_cases e : j = k
          · subst e; exact HBD.out
          · exact HOK.out j (by omega))⟩
        case measure => simp [intOf]; omega
      · have hcb : (ch != 0) = true := by simpa using hc
        have hla := check_laidAt (laidAt_st HP0.out (i := k) (by rw [x.st_len]; exact hlt) HOK.out (by rw [HBD.out]; exact hc))
        rw [HBD.out] at hla
        have HE := Lib.hid (fun (W : World) (f : Fr No w W) => rchk_at hla f)
        clear hc hla
        go_wp2_with (go_at_call 28; refine HC.out.mono ?_; rintro e w2 ⟨rfl, hf2⟩)
        go_ret2
        exact HE.out _ ((K0.out.trans HF.out).trans hf2)
    · obtain rfl : k = x.sp.length := by omega
      have HP1 := Lib.hid (show x.g.P1 from ⟨HP0.out, fun i hi => HOK.out i (by rwa [x.st_len] at hi)⟩)
      clear HOK
      go_wp2
      clear c0 c1
      go_loopw [6] (fun i wy => ∃ k : Nat, k ≤ x.du.length ∧ i = .int .i64 k ∧ Hid (Fr No (w.alloc (.cells #[.slice x.sa x.sp.length x.sc, .slice x.da x.du.length x.dc] 63)) wy) ∧ Hid (∀ j, j < k → x.g.duBad j = 0)) (fun i _ => x.du.length - (intOf i).toNat)
      case atStart => exact ⟨0, Nat.zero_le _, rfl, HF, Lib.hid (fun j hj => absurd hj (by omega))⟩
      case round =>
        obtain ⟨k, hk, rfl, HFy, HOK⟩ := hrel
        clear HF
        obtain ⟨c0, c1⟩ := HB.out _ HFy.out
        by_cases hlt : k < x.du.length
        · have HC := Lib.hid (duct_ref _ x (HXB.out _ HFy.out) HSM.out k hlt)
          have hki : (k : Int) < x.du.length := by omega
          cases hft : x.g.fits k with
          | false =>
            rw [hft] at HC
            have hla := check_laidAt (laidAt_du HP1.out (i := k) (by rw [x.du_len]; exact hlt) HOK.out (by rw [duBad_no (by rw [hft]; simp)]; decide))
            rw [duBad_no (by rw [hft]; simp)] at hla
            have HE := Lib.hid (fun (W : World) (f : Fr No w W) => rchk_at hla f)
            clear hft hla
            go_wp2_with (go_at_call 71; refine HC.out.mono ?_; rintro e w2 ⟨rfl, hf2⟩)
            go_ret2
            exact HE.out _ ((K0.out.trans HFy.out).trans hf2)
          | true =>
            rw [hft] at HC
            have hdk : x.g.d k = x.du[k] := x.d_at hlt
            have HDC := Lib.hid (fun (W : World) (h : Fr No (w.alloc (.cells #[.slice x.sa x.sp.length x.sc, .slice x.da x.du.length x.dc] 63)) W) => show ∃ gd od, x.da = some ⟨gd, od, none⟩ ∧ W.cell? ⟨gd, od + k * 5 + 4, none⟩ = some (.int .i64 (x.du[k]).cap) from by
              obtain ⟨gd, od, hda, hdr⟩ := (HXB.out W h).du.flat dc_len (by decide) (by omega)
              exact ⟨gd, od, hda, (dc_cells hdr hlt).2.2.2.2⟩)
            have HBAD := Lib.hid (fun (h : (x.du[k]).cap < 1 ∨ 8 < (x.du[k]).cap) => show x.g.check = ((k : Int), 16) from by
              have hb := duBad_cap hft (by rw [hdk]; exact h)
              have := check_laidAt (laidAt_du HP1.out (i := k) (by rw [x.du_len]; exact hlt) HOK.out (by rw [hb]; decide))
              rwa [hb] at this)
            have HGOOD := Lib.hid (fun (h : ¬ ((x.du[k]).cap < 1 ∨ 8 < (x.du[k]).cap)) => duBad_ok hft (by rw [hdk]; exact h))
            clear hft hdk
            generalize (x.du[k]).cap = cap at *
            obtain ⟨gd, od, hda, -⟩ := HDC.out _ HFy.out
            have HDC2 := Lib.hid (fun (W : World) (h : Fr No (w.alloc (.cells #[.slice x.sa x.sp.length x.sc, .slice x.da x.du.length x.dc] 63)) W) => show W.cell? ⟨gd, od + k * 5 + 4, none⟩ = some (.int .i64 cap) ∧ W.cell? ⟨w.heap.size, 1, none⟩ = some (.slice (some ⟨gd, od, none⟩) x.du.length x.dc) from by
              obtain ⟨gd', od', e, hc⟩ := HDC.out W h
              rw [hda] at e; injection e with e; injection e with e1 e2; subst e1; subst e2
              exact ⟨hc, (HB.out W h).2.trans (by rw [hda])⟩)
            clear hda
            by_cases hcp : cap < 1 ∨ 8 < cap
            · have HE := Lib.hid (fun (W : World) (f : Fr No w W) => rchk_at (HBAD.out hcp) f)
              rcases hcp with hcp | hcp
              · go_wp2_with (go_at_call 71; refine HC.out.mono ?_; rintro e w2 ⟨rfl, hf2⟩; have HF2 := Lib.hid (HFy.out.trans hf2); obtain ⟨z1, z2⟩ := HDC2.out _ HF2.out; clear hf2)
                go_ret2
                exact HE.out _ (K0.out.trans HF2.out)
              · have hcp1 : ¬ cap < 1 := by omega
                go_wp2_with (go_at_call 71; refine HC.out.mono ?_; rintro e w2 ⟨rfl, hf2⟩; have HF2 := Lib.hid (HFy.out.trans hf2); obtain ⟨z1, z2⟩ := HDC2.out _ HF2.out; clear hf2)
                go_ret2
                exact HE.out _ (K0.out.trans HF2.out)
            · have hcp1 : ¬ cap < 1 := by omega
              have hcp2 : ¬ 8 < cap := by omega
              have HG := Lib.hid (HGOOD.out hcp)
              clear hcp
              go_wp2_with (go_at_call 71; refine HC.out.mono ?_; rintro e w2 ⟨rfl, hf2⟩; have HF2 := Lib.hid (HFy.out.trans hf2); obtain ⟨z1, z2⟩ := HDC2.out _ HF2.out; clear hf2)
              · exfalso; omega
              refine ⟨⟨k + 1, by omega, by go_num, HF2, Lib.hid fun j hj => (by
                by_cases e : j = k
                · subst e; exact HG.out
                · exact HOK.out j (by omega))⟩, ?_⟩
              simp [intOf]; omega
        · obtain rfl : k = x.du.length := by omega
          have HP2 := Lib.hid (show x.g.P2 from ⟨HP1.out, fun i hi => HOK.out i (by rwa [x.du_len] at hi)⟩)
          clear HOK
          go_wp2
          clear c0 c1
          go_loopw [7] (fun i wz => ∃ k : Nat, k ≤ x.sp.length ∧ i = .int .i64 k ∧ Hid (Fr No (w.alloc (.cells #[.slice x.sa x.sp.length x.sc, .slice x.da x.du.length x.dc] 63)) wz) ∧ Hid (∀ j, j < k → ¬ x.g.dang j)) (fun i _ => x.sp.length - (intOf i).toNat)
          case atStart => exact ⟨0, Nat.zero_le _, rfl, HFy, Lib.hid (fun j hj => absurd hj (by omega))⟩
          case round =>
            obtain ⟨k, hk, rfl, HFz, HOK⟩ := hrel
            clear HFy
            obtain ⟨c0, c1⟩ := HB.out _ HFz.out
            by_cases hlt : k < x.sp.length
            · have HC := Lib.hid (dangling_ref _ x (HXB.out _ HFz.out) HSM.out k hlt)
              have hki : (k : Int) < x.sp.length := by omega
              cases hdb : x.g.dangB k with
              | true =>
                rw [hdb] at HC
                have HE := Lib.hid (fun (W : World) (f : Fr No w W) => rchk_at (check_laidAt (laidAt_da HP2.out (i := k) (by rw [x.st_len]; exact hlt) HOK.out ((dangB_iff _ _).1 hdb))) f)
                clear hdb
                go_wp2_with (go_at_call 72; refine HC.out.mono ?_; rintro e w2 ⟨rfl, hf2⟩)
                go_ret2
                exact HE.out _ ((K0.out.trans HFz.out).trans hf2)
              | false =>
                rw [hdb] at HC
                have HG := Lib.hid (show ¬ x.g.dang k from fun h => by rw [dangB_yes h] at hdb; cases hdb)
                clear hdb
                go_wp2_with (go_at_call 72; refine HC.out.mono ?_; rintro e w2 ⟨rfl, hf2⟩; have HF2 := Lib.hid (HFz.out.trans hf2); clear hf2)
                go_roundw
                case rel => exact ⟨k + 1, by omega, by go_num, HF2, Lib.hid fun j hj => (by
                  by_cases e : j = k
                  · subst e; exact HG.out
                  · exact HOK.out j (by omega))⟩
                case measure => simp [intOf]; omega
            · obtain rfl : k = x.sp.length := by omega
              have HL := Lib.hid (HP2.out.laid fun j hj => HOK.out j (by rwa [x.st_len] at hj))
              clear HOK
              go_wp2
              clear c0 c1
              go_loopw [8] (fun i wv => ∃ k : Nat, k ≤ x.sp.length ∧ i = .int .i64 k ∧ Hid (Fr No (w.alloc (.cells #[.slice x.sa x.sp.length x.sc, .slice x.da x.du.length x.dc] 63)) wv) ∧ Hid (∀ j, j < k → ¬ x.g.Reach j j)) (fun i _ => x.sp.length - (intOf i).toNat)
              case atStart => exact ⟨0, Nat.zero_le _, rfl, HFz, Lib.hid (fun j hj => absurd hj (by omega))⟩
              case round =>
                obtain ⟨k, hk, rfl, HFv, HOK⟩ := hrel
                clear HFz
                obtain ⟨c0, c1⟩ := HB.out _ HFv.out
                by_cases hlt : k < x.sp.length
                · have HC := Lib.hid (reaches_ref _ x (HXB.out _ HFv.out) HL.out k hlt)
                  have hki : (k : Int) < x.sp.length := by omega
                  cases hrb : x.g.roundB k with
                  | true =>
                    rw [hrb] at HC
                    have HE := Lib.hid (fun (W : World) (f : Fr No w W) => rchk_at (check_cy HL.out (i := k) (by rw [x.st_len]; exact hlt) HOK.out ((roundB_iff _ _).1 hrb)) f)
                    clear hrb
                    go_wp2_with (go_at_call 73; refine HC.out.mono ?_; rintro e w2 ⟨rfl, hf2⟩)
                    go_ret2
                    exact HE.out _ ((K0.out.trans HFv.out).trans hf2)
                  | false =>
                    rw [hrb] at HC
                    have HG := Lib.hid (show ¬ x.g.Reach k k from fun h => by rw [(roundB_iff x.g k).2 h] at hrb; cases hrb)
                    clear hrb
                    go_wp2_with (go_at_call 73; refine HC.out.mono ?_; rintro e w2 ⟨rfl, hf2⟩; have HF2 := Lib.hid (HFv.out.trans hf2); clear hf2)
                    go_roundw
                    case rel => exact ⟨k + 1, by omega, by go_num, HF2, Lib.hid fun j hj => (by
                      by_cases e : j = k
                      · subst e; exact HG.out
                      · exact HOK.out j (by omega))⟩
                    case measure => simp [intOf]; omega
                · obtain rfl : k = x.sp.length := by omega
                  have HE := Lib.hid (rchk_at (check_whole (g := x.g) ⟨HL.out, fun i hi => HOK.out i (by rwa [x.st_len] at hi)⟩) (K0.out.trans HFv.out))
                  go_wp2
                  go_ret2
                  exact HE.out
end Go.Proofs.Ytljldkknopmfhaa
