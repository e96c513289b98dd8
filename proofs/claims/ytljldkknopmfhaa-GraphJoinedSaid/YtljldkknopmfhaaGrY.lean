/- GraphJoined, walked. -/
import Derived.Test.YtljldkknopmfhaaGrX
namespace Go.Proofs.Ytljldkknopmfhaa
open Go.RowKit

theorem in_at {g : Gr} (h : g.Laid) {s : Nat} (hs : s < g.st.length) {q : Nat} (hq : q < (g.insOf s).length) : ∃ j : Nat, (g.insOf s)[q] = j ∧ j < g.du.length ∧ (g.d j).to = s ∧ (g.d j).inn = q := by
  have hlen : (g.insOf s).length = (g.s s).ins.toNat := inRow_len hs
  have e : (g.insOf s)[q] = inAt g.du s q := by
    simp only [insOf_eq hs, List.getElem_map, List.getElem_range]
  obtain ⟨j, hj, e1, e2⟩ := idx_at (h.inEx hs (k := q) (by omega))
  have hd := d_mem hj
  rw [← hd] at e2
  exact ⟨j, by rw [e]; exact e1, hj, inP_iff.1 e2⟩
theorem out_at {g : Gr} (h : g.Laid) {s : Nat} (hs : s < g.st.length) {q : Nat} (hq : q < (g.outsOf s).length) : ∃ j : Nat, (g.outsOf s)[q] = j ∧ j < g.du.length ∧ (g.d j).frm = s ∧ (g.d j).out = q := by
  have hlen : (g.outsOf s).length = (g.s s).outs.toNat := outRow_len hs
  have e : (g.outsOf s)[q] = outAt g.du s q := by
    simp only [outsOf_eq hs, List.getElem_map, List.getElem_range]
  obtain ⟨j, hj, e1, e2⟩ := idx_at (h.outEx hs (k := q) (by omega))
  have hd := d_mem hj
  rw [← hd] at e2
  exact ⟨j, by rw [e]; exact e1, hj, outP_iff.1 e2⟩
theorem insL_at {g : Gr} (h : g.Whole) {s : Nat} (hs : s < g.st.length) : g.insL s = g.insOf s ∧ g.outsL s = g.outsOf s := by
  have hc : g.check.2 = 0 := (check_ok g).2 h
  unfold Gr.insL Gr.outsL
  rw [if_pos ⟨hc, by omega, by omega⟩, if_pos ⟨hc, by omega, by omega⟩, Int.toNat_natCast]
  exact ⟨rfl, rfl⟩
set_option maxHeartbeats 8000000 in
set_option maxRecDepth 100000 in
theorem core_graphJoined (w : World) (x : Gv) (hx : x.Ok w) : Calls Try.prog 13 #[.agg #[.slice x.sa x.sp.length x.sc, .slice x.da x.du.length x.dc]] w (RndPost w true) := by
  have HB := Lib.hid (fun (W : World) (h : Fr No (w.alloc (.cells #[.slice x.sa x.sp.length x.sc, .slice x.da x.du.length x.dc] 63)) W) => gbox w x h)
  have HXB := Lib.hid (fun (W : World) (h : Fr No (w.alloc (.cells #[.slice x.sa x.sp.length x.sc, .slice x.da x.du.length x.dc] 63)) W) => hx.fr (((Fr.refl No w).alloc _).trans h))
  have HLO := Lib.hid (long_any (w.alloc (.cells #[.slice x.sa x.sp.length x.sc, .slice x.da x.du.length x.dc] 63)) x (HXB.out _ (Fr.refl _ _)))
  have K0 := Lib.hid ((Fr.refl No w).alloc (.cells #[.slice x.sa x.sp.length x.sc, .slice x.da x.du.length x.dc] 63))
  by_cases hsm : Sml x
  · rw [longB_no hsm] at HLO
    by_cases hck : x.g.check.2 = 0
    · have hwh := (check_ok x.g).1 hck
      have HWH := Lib.hid hwh
      have hn16 : x.sp.length ≤ 16 := by have := hwh.ns; rwa [x.st_len] at this
      have hd64 : x.du.length ≤ 64 := by have := hwh.nd; rwa [x.du_len] at this
      have HCK := Lib.hid (fun (W : World) (h : Fr No (w.alloc (.cells #[.slice x.sa x.sp.length x.sc, .slice x.da x.du.length x.dc] 63)) W) => check_graph W x (HXB.out W h) hsm)
      unfold CheckPost at HCK
      rw [hck] at HCK
      have HIN := Lib.hid (fun (W : World) (h : Fr No (w.alloc (.cells #[.slice x.sa x.sp.length x.sc, .slice x.da x.du.length x.dc] 63)) W) (s : Nat) (hs : s < x.sp.length) => show Calls Try.prog 50 #[.agg #[.slice x.sa x.sp.length x.sc, .slice x.da x.du.length x.dc], .int .i64 s] W (RowPost W (x.g.insOf s)) from by
        rw [← (insL_at hwh (by rw [x.st_len]; exact hs)).1]; exact ins_graph W x (HXB.out W h) hsm s)
      have HOU := Lib.hid (fun (W : World) (h : Fr No (w.alloc (.cells #[.slice x.sa x.sp.length x.sc, .slice x.da x.du.length x.dc] 63)) W) (s : Nat) (hs : s < x.sp.length) => show Calls Try.prog 51 #[.agg #[.slice x.sa x.sp.length x.sc, .slice x.da x.du.length x.dc], .int .i64 s] W (RowPost W (x.g.outsOf s)) from by
        rw [← (insL_at hwh (by rw [x.st_len]; exact hs)).2]; exact outs_graph W x (HXB.out W h) hsm s)
      have hsi := ins_sum hwh.toLaid
      have hso := outs_sum hwh.toLaid
      rw [x.st_len, x.du_len] at hsi hso
      have hmono : ∀ (f : Nat → Nat) k, k ≤ x.sp.length → sumTo f k ≤ sumTo f x.sp.length := fun f k hk => by
        obtain ⟨d, hd⟩ := Nat.exists_eq_add_of_le hk
        rw [hd]
        clear hd
        induction d with
        | zero => exact Nat.le_refl _
        | succ d ih => exact Nat.le_trans ih (Nat.le_add_right _ _)
      have HSI := Lib.hid hsi; have HSO := Lib.hid hso; have HMO := Lib.hid hmono
      clear hck hsm hwh hx hsi hso hmono
      go_enter Try.func13, Try.ntmps13
      go_wp2_with (first
        | (go_at_call 41; refine HLO.out.mono ?_; rintro e w1 ⟨rfl, hf1⟩
           have HF1 := Lib.hid hf1
           obtain ⟨c0, c1⟩ := HB.out _ hf1
           clear hf1)
        | (go_at_call 44; refine (HCK.out _ HF1.out).mono ?_; rintro e w2 ⟨rfl, hf2⟩
           have HF2 := Lib.hid (HF1.out.trans hf2)
           clear hf2 c0 c1))
      go_loopw [5, 6, 7] (fun a b i wr => ∃ k : Nat, k ≤ x.sp.length ∧ i = .int .i64 k ∧ a = .int .i64 (sumTo (fun s => (x.g.s s).ins.toNat) k) ∧ b = .int .i64 (sumTo (fun s => (x.g.s s).outs.toNat) k) ∧ Hid (Fr No (w.alloc (.cells #[.slice x.sa x.sp.length x.sc, .slice x.da x.du.length x.dc] 63)) wr)) (fun _ _ i _ => x.sp.length - (intOf i).toNat)
      case atStart => exact ⟨0, Nat.zero_le _, rfl, rfl, rfl, HF2⟩
      case round =>
        obtain ⟨k, hk, rfl, rfl, rfl, HF⟩ := hrel
        obtain ⟨c0, c1⟩ := HB.out _ HF.out
        have hmi := HMO.out (fun s => (x.g.s s).ins.toNat) k hk
        have hmo := HMO.out (fun s => (x.g.s s).outs.toNat) k hk
        rw [HSI.out] at hmi
        rw [HSO.out] at hmo
        by_cases hlt : k < x.sp.length
        · have hki : (k : Int) < x.sp.length := by omega
          have hki16 : (k : Int) < 16 := by omega
          have hli : (x.g.insOf k).length = (x.g.s k).ins.toNat := inRow_len (by rw [x.st_len]; exact hlt)
          have hlo : (x.g.outsOf k).length = (x.g.s k).outs.toNat := outRow_len (by rw [x.st_len]; exact hlt)
          obtain ⟨f4, f4'⟩ := ports_few (HXB.out _ HF.out) HWH.out.toLaid hlt
          have HIA := Lib.hid (fun q (hq : q < (x.g.insOf k).length) => in_at HWH.out.toLaid (by rw [x.st_len]; exact hlt) hq)
          have HOA := Lib.hid (fun q (hq : q < (x.g.outsOf k).length) => out_at HWH.out.toLaid (by rw [x.st_len]; exact hlt) hq)
          have HI := Lib.hid (fun W h => HIN.out W h k hlt)
          have HO := Lib.hid (fun W h => HOU.out W h k hlt)
          have hsi : sumTo (fun s => (x.g.s s).ins.toNat) (k + 1) = sumTo (fun s => (x.g.s s).ins.toNat) k + (x.g.insOf k).length := by rw [hli]; rfl
          have hso : sumTo (fun s => (x.g.s s).outs.toNat) (k + 1) = sumTo (fun s => (x.g.s s).outs.toNat) k + (x.g.outsOf k).length := by rw [hlo]; rfl
          have HSI2 := Lib.hid hsi; have HSO2 := Lib.hid hso
          clear hli hlo hsi hso
          generalize sumTo (fun s => (x.g.s s).ins.toNat) k = si at *
          generalize sumTo (fun s => (x.g.s s).outs.toNat) k = so at *
          generalize x.g.insOf k = A at *
          generalize x.g.outsOf k = B at *
          have hA4 : (A.length : Int) ≤ 4 := by omega
          have hB4 : (B.length : Int) ≤ 4 := by omega
          have hsi64 : (si : Int) ≤ 64 := by omega
          have hso64 : (so : Int) ≤ 64 := by omega
          have HK := Lib.hid (fun (W : World) (h : Fr No wr W) => HB.out _ (HF.out.trans h))
          have HFT := Lib.hid (fun (W : World) (h : Fr No wr W) => HF.out.trans h)
          go_wp2_with fail
          go_region_held3 (fun W => W.cell? ⟨w.heap.size, 0, none⟩ = some (.slice x.sa x.sp.length x.sc) ∧ W.cell? ⟨w.heap.size, 1, none⟩ = some (.slice x.da x.du.length x.dc))
            (first | exact HK.out _ (Fr.refl _ _).drew | exact HB.out _ HF5.out | exact HB.out _ HF4.out)
            (first
              | (go_at_call 50; refine (HI.out _ (HFT.out _ (Fr.refl _ _).drew)).mono ?_; rintro e w4 ⟨a4, c4, rfl, hat4, hf4⟩
                 have HF4 := Lib.hid ((HFT.out _ (Fr.refl _ _).drew).trans hf4); have HA4 := Lib.hid hat4; clear hf4 hat4)
              | (go_at_call 51; refine (HO.out _ HF4.out).mono ?_; rintro e w5 ⟨a5, c5, rfl, hat5, hf5⟩
                 have HF5 := Lib.hid (HF4.out.trans hf5); have HA5 := Lib.hid hat5; have HA45 := Lib.hid (at_keep HA4.out hf5); clear hf5 hat5))
          clear c0 c1 HK HFT HI HO HA4 HF4
          have hw1 : (si : Int) + A.length ≤ 68 := by omega
          have hw2 : (so : Int) + B.length ≤ 68 := by omega
          go_wp2_with fail
          go_loopw [10] (fun j wy => ∃ q : Nat, q ≤ A.length ∧ j = .int .i64 q ∧ Hid (Fr No (w.alloc (.cells #[.slice x.sa x.sp.length x.sc, .slice x.da x.du.length x.dc] 63)) wy) ∧ Hid (At wy a4 (A.map iv)) ∧ Hid (At wy a5 (B.map iv))) (fun j _ => A.length - (intOf j).toNat)
          case atStart => exact ⟨0, Nat.zero_le _, rfl, HF5, HA45, HA5⟩
          case round =>
            obtain ⟨q, hq, rfl, HFy, HAy , HBy⟩ := hrel
            by_cases hlq : q < A.length
            · obtain ⟨dn, e1, e2, e3, e4⟩ := HIA.out q hlq
              obtain ⟨ga, oa, rfl, hra⟩ := HAy.out (by simp; omega)
              have d1 : wr.cell? ⟨ga, oa + q, none⟩ = some (.int .i64 dn) := by
                have := hra.get q (iv A[q]) (by simp [hlq])
                rw [e1] at this; exact this
              rw [x.du_len] at e2
              rw [x.d_at e2] at e3 e4
              obtain ⟨gd, od, hda, hdr⟩ := (HXB.out _ HFy.out).du.flat dc_len (by decide) (by omega)
              obtain ⟨d2, d3, d4, d5, -⟩ := dc_cells hdr e2
              rw [e3] at d4
              rw [e4] at d5
              have d6 := (HB.out _ HFy.out).2
              rw [hda] at d6
              have hdi : (dn : Int) < x.du.length := by omega
              have hqi : (q : Int) < A.length := by omega
              have hdn : decide ((dn : Int) < 0) = false := by simp
              have hdm : decide ((x.du.length : Int) ≤ dn) = false := by simp; omega
              have hdm2 : decide (x.du.length ≤ dn) = false := by simp; omega
              clear hda hdr hra e1 e2 e3 e4 d2 d3
              go_wp2_with fail
              go_quiet (fail)
              go_wp2
              go_roundw
              case rel => exact ⟨q + 1, by omega, by go_num, Lib.hid (HFy.out.drewN nq), Lib.hid (at_keep HAy.out ((Fr.refl No _).drewN nq)) , Lib.hid (at_keep HBy.out ((Fr.refl No _).drewN nq))⟩
              case measure => simp [intOf]; omega
            · obtain rfl : q = A.length := by omega
              go_wp2_with fail
              go_loopw [11] (fun j wy => ∃ q : Nat, q ≤ B.length ∧ j = .int .i64 q ∧ Hid (Fr No (w.alloc (.cells #[.slice x.sa x.sp.length x.sc, .slice x.da x.du.length x.dc] 63)) wy) ∧ Hid (At wy a5 (B.map iv))) (fun j _ => B.length - (intOf j).toNat)
              case atStart => exact ⟨0, Nat.zero_le _, rfl, HFy, HBy⟩
              case round =>
                obtain ⟨q, hq, rfl, HFy, HAy⟩ := hrel
                by_cases hlq : q < B.length
                · obtain ⟨dn, e1, e2, e3, e4⟩ := HOA.out q hlq
                  obtain ⟨ga, oa, rfl, hra⟩ := HAy.out (by simp; omega)
                  have d1 : wr.cell? ⟨ga, oa + q, none⟩ = some (.int .i64 dn) := by
                    have := hra.get q (iv B[q]) (by simp [hlq])
                    rw [e1] at this; exact this
                  rw [x.du_len] at e2
                  rw [x.d_at e2] at e3 e4
                  obtain ⟨gd, od, hda, hdr⟩ := (HXB.out _ HFy.out).du.flat dc_len (by decide) (by omega)
                  obtain ⟨d2, d3, d4, d5, -⟩ := dc_cells hdr e2
                  rw [e3] at d2
                  rw [e4] at d3
                  have d6 := (HB.out _ HFy.out).2
                  rw [hda] at d6
                  have hdi : (dn : Int) < x.du.length := by omega
                  have hqi : (q : Int) < B.length := by omega
                  have hdn : decide ((dn : Int) < 0) = false := by simp
                  have hdm : decide ((x.du.length : Int) ≤ dn) = false := by simp; omega
                  have hdm2 : decide (x.du.length ≤ dn) = false := by simp; omega
                  clear hda hdr hra e1 e2 e3 e4 d4 d5
                  go_wp2_with fail
                  go_quiet (fail)
                  go_wp2
                  go_roundw
                  case rel => exact ⟨q + 1, by omega, by go_num, Lib.hid (HFy.out.drewN nq), Lib.hid (at_keep HAy.out ((Fr.refl No _).drewN nq))⟩
                  case measure => simp [intOf]; omega
                · obtain rfl : q = B.length := by omega
                  go_wp2
                  go_roundw
                  case rel => exact ⟨k + 1, by omega, by go_num, by rw [HSI2.out]; go_num, by rw [HSO2.out]; go_num, HFy⟩
                  case measure => simp [intOf]; omega
        · obtain rfl : k = x.sp.length := by omega
          have HAW := Lib.hid (awake20 wr)
          rw [HSI.out, HSO.out]
          clear hmi hmo
          go_wp2_with (go_at_call 42; refine HAW.out.mono ?_; rintro e w9 ⟨rfl, hf9⟩)
          go_ret
          exact ⟨rfl, (K0.out.trans HF.out).trans hf9⟩
    · have hcb : (x.g.check.2 != 0) = true := by simpa using hck
      have HCK := Lib.hid (fun (W : World) (h : Fr No (w.alloc (.cells #[.slice x.sa x.sp.length x.sc, .slice x.da x.du.length x.dc] 63)) W) => check_graph W x (HXB.out W h) hsm)
      unfold CheckPost at HCK
      clear hck hsm hx
      generalize x.g.check = ck at *
      go_enter Try.func13, Try.ntmps13
      go_wp2_with (first
        | (go_at_call 41; refine HLO.out.mono ?_; rintro e w1 ⟨rfl, hf1⟩
           have HF1 := Lib.hid hf1
           obtain ⟨c0, c1⟩ := HB.out _ hf1
           clear hf1)
        | (go_at_call 44; refine (HCK.out _ HF1.out).mono ?_; rintro e w2 ⟨rfl, hf2⟩
           have HF2 := Lib.hid (HF1.out.trans hf2)
           clear hf2 c0 c1)
        | (go_at_call 42; refine (awake20 _).mono ?_; rintro e w3 ⟨rfl, hf3⟩))
      go_ret
      exact ⟨rfl, (K0.out.trans HF2.out).trans hf3⟩
  · rw [longB_yes hsm] at HLO
    clear hx hsm
    go_enter Try.func13, Try.ntmps13
    go_wp2_with (first
      | (go_at_call 41; refine HLO.out.mono ?_; rintro e w1 ⟨rfl, hf1⟩)
      | (go_at_call 42; refine (awake20 _).mono ?_; rintro e w3 ⟨rfl, hf3⟩))
    go_ret
    exact ⟨rfl, (K0.out.trans hf1).trans hf3⟩
theorem walk_graphJoined (w : World) {v : Value} (x : Gv) (h : IsGr w v x) : Calls Try.prog 13 #[v] w (RndPost w true) := by
  obtain ⟨rfl, hx⟩ := h
  exact core_graphJoined w x hx
end Go.Proofs.Ytljldkknopmfhaa
