/- Graphs, the document's words: In, Out, duct, dangling. -/
import Derived.Test.YtljldkknopmfhaaGrT
import Derived.Test.YtljldkknopmfhaaGrS
import Derived.BigQuiet
namespace Go.Proofs.Ytljldkknopmfhaa
open Go.RowKit

theorem stg_few (s : Stg) (hn : s.n ≤ 9223372036854775807) : 0 ≤ s.ins ∧ s.ins ≤ 4 ∧ 0 ≤ s.outs ∧ s.outs ≤ 4 := by
  by_cases h : s.chk = 0
  · exact stg_range s hn h
  · have h1 : s.ins = 0 := by unfold Stg.ins insR; exact if_pos h
    have h2 : s.outs = 0 := by unfold Stg.outs outsR; exact if_pos h
    omega
set_option maxHeartbeats 1000000 in
set_option maxRecDepth 100000 in
theorem in_ref (w : World) (x : Gv) (hx : x.Ok w) (hd : x.du.length ≤ 200) (s p : Int) : Calls Try.prog 79 #[.agg #[.slice x.sa x.sp.length x.sc, .slice x.da x.du.length x.dc], .int .i64 s, .int .i64 p] w (IPost w (inAt x.du s p)) := by
  have HX := Lib.hid (hx.fr ((Fr.refl No w).alloc (.cells #[.slice x.sa x.sp.length x.sc, .slice x.da x.du.length x.dc] 63)))
  have c1 := cell_block (heap_alloc_new w (.cells #[.slice x.sa x.sp.length x.sc, .slice x.da x.du.length x.dc] 63)) 1
  have hdi : (x.du.length : Int) ≤ 200 := by omega
  clear hx
  go_enter Try.func79, Try.ntmps79
  go_wp2
  go_loopw [7] (fun i wr => ∃ k : Nat, k ≤ x.du.length ∧ i = .int .i64 k ∧ Hid (∀ j (h : j < x.du.length), j < k → inP s p x.du[j] = false) ∧ wr = w.alloc (.cells #[.slice x.sa x.sp.length x.sc, .slice x.da x.du.length x.dc] 63)) (fun i _ => x.du.length - (intOf i).toNat)
  case atStart => exact ⟨0, Nat.zero_le _, rfl, Lib.hid (fun j _ hj => absurd hj (by omega)), by trivial⟩
  case round =>
    obtain ⟨k, hk, rfl, HQ, rfl⟩ := hrel
    by_cases hlt : k < x.du.length
    · obtain ⟨gd, od, hda, hdr⟩ := HX.out.du.flat dc_len (by decide) (by omega)
      obtain ⟨d0, d1, d2, d3, d4⟩ := dc_cells hdr hlt
      have hki : (k : Int) < x.du.length := by omega
      have c2 : (w.alloc (.cells #[.slice x.sa x.sp.length x.sc, .slice x.da x.du.length x.dc] 63)).cell? ⟨w.heap.size, 1, none⟩ = some (.slice (some ⟨gd, od, none⟩) x.du.length x.dc) := by rw [c1, hda]; rfl
      have hyes : inP s p x.du[k] = true → inAt x.du s p = k := fun h => idx_one hlt h fun i hi => HQ.out i (by omega) hi
      have hno : inP s p x.du[k] = false → ∀ j (h : j < x.du.length), j < k + 1 → inP s p x.du[j] = false := fun h j hj hjk => by
        by_cases e : j = k
        · subst e; exact h
        · exact HQ.out j hj (by omega)
      have HY := Lib.hid hyes; have HN := Lib.hid hno
      clear hyes hno hda hdr c1
      generalize x.du[k] = d at *
      obtain ⟨frm, dout, dto, dinn, dcap⟩ := d
      dsimp only at *
      by_cases h1 : dto = s
      · by_cases h2 : dinn = p
        · have HE := Lib.hid (HY.out (inP_iff.2 ⟨h1, h2⟩))
          have b1 : (dto == s) = true := by simpa using h1
          have b2 : (dinn == p) = true := by simpa using h2
          clear h1 h2
          go_wp2
          go_ret
          rw [HE.out]
          exact ⟨rfl, (Fr.refl _ _).alloc _⟩
        · have HE := Lib.hid (HN.out (inP_no.2 fun h => h2 h.2))
          have b1 : (dto == s) = true := by simpa using h1
          have b2 : (dinn == p) = false := by simpa using h2
          clear h1 h2
          go_wp2
          go_roundw
          case rel => exact ⟨k + 1, by omega, by go_num, HE, by trivial⟩
          case measure => simp [intOf]; omega
      · have HE := Lib.hid (HN.out (inP_no.2 fun h => h1 h.1))
        have b1 : (dto == s) = false := by simpa using h1
        clear h1
        go_wp2
        go_roundw
        case rel => exact ⟨k + 1, by omega, by go_num, HE, by trivial⟩
        case measure => simp [intOf]; omega
    · obtain rfl : k = x.du.length := by omega
      have HE := Lib.hid (show inAt x.du s p = -1 from idx_none.2 fun d hd => by
        obtain ⟨j, hj, rfl⟩ := List.getElem_of_mem hd
        exact HQ.out j hj hj)
      go_wp2
      go_ret
      rw [HE.out]
      exact ⟨rfl, (Fr.refl _ _).alloc _⟩
set_option maxHeartbeats 1000000 in
set_option maxRecDepth 100000 in
theorem out_ref (w : World) (x : Gv) (hx : x.Ok w) (hd : x.du.length ≤ 200) (s p : Int) : Calls Try.prog 80 #[.agg #[.slice x.sa x.sp.length x.sc, .slice x.da x.du.length x.dc], .int .i64 s, .int .i64 p] w (IPost w (outAt x.du s p)) := by
  have HX := Lib.hid (hx.fr ((Fr.refl No w).alloc (.cells #[.slice x.sa x.sp.length x.sc, .slice x.da x.du.length x.dc] 63)))
  have c1 := cell_block (heap_alloc_new w (.cells #[.slice x.sa x.sp.length x.sc, .slice x.da x.du.length x.dc] 63)) 1
  have hdi : (x.du.length : Int) ≤ 200 := by omega
  clear hx
  go_enter Try.func80, Try.ntmps80
  go_wp2
  go_loopw [7] (fun i wr => ∃ k : Nat, k ≤ x.du.length ∧ i = .int .i64 k ∧ Hid (∀ j (h : j < x.du.length), j < k → outP s p x.du[j] = false) ∧ wr = w.alloc (.cells #[.slice x.sa x.sp.length x.sc, .slice x.da x.du.length x.dc] 63)) (fun i _ => x.du.length - (intOf i).toNat)
  case atStart => exact ⟨0, Nat.zero_le _, rfl, Lib.hid (fun j _ hj => absurd hj (by omega)), by trivial⟩
  case round =>
    obtain ⟨k, hk, rfl, HQ, rfl⟩ := hrel
    by_cases hlt : k < x.du.length
    · obtain ⟨gd, od, hda, hdr⟩ := HX.out.du.flat dc_len (by decide) (by omega)
      obtain ⟨d0, d1, d2, d3, d4⟩ := dc_cells hdr hlt
      have hki : (k : Int) < x.du.length := by omega
      have c2 : (w.alloc (.cells #[.slice x.sa x.sp.length x.sc, .slice x.da x.du.length x.dc] 63)).cell? ⟨w.heap.size, 1, none⟩ = some (.slice (some ⟨gd, od, none⟩) x.du.length x.dc) := by rw [c1, hda]; rfl
      have hyes : outP s p x.du[k] = true → outAt x.du s p = k := fun h => idx_one hlt h fun i hi => HQ.out i (by omega) hi
      have hno : outP s p x.du[k] = false → ∀ j (h : j < x.du.length), j < k + 1 → outP s p x.du[j] = false := fun h j hj hjk => by
        by_cases e : j = k
        · subst e; exact h
        · exact HQ.out j hj (by omega)
      have HY := Lib.hid hyes; have HN := Lib.hid hno
      clear hyes hno hda hdr c1
      generalize x.du[k] = d at *
      obtain ⟨frm, dout, dto, dinn, dcap⟩ := d
      dsimp only at *
      by_cases h1 : frm = s
      · by_cases h2 : dout = p
        · have HE := Lib.hid (HY.out (outP_iff.2 ⟨h1, h2⟩))
          have b1 : (frm == s) = true := by simpa using h1
          have b2 : (dout == p) = true := by simpa using h2
          clear h1 h2
          go_wp2
          go_ret
          rw [HE.out]
          exact ⟨rfl, (Fr.refl _ _).alloc _⟩
        · have HE := Lib.hid (HN.out (outP_no.2 fun h => h2 h.2))
          have b1 : (frm == s) = true := by simpa using h1
          have b2 : (dout == p) = false := by simpa using h2
          clear h1 h2
          go_wp2
          go_roundw
          case rel => exact ⟨k + 1, by omega, by go_num, HE, by trivial⟩
          case measure => simp [intOf]; omega
      · have HE := Lib.hid (HN.out (outP_no.2 fun h => h1 h.1))
        have b1 : (frm == s) = false := by simpa using h1
        clear h1
        go_wp2
        go_roundw
        case rel => exact ⟨k + 1, by omega, by go_num, HE, by trivial⟩
        case measure => simp [intOf]; omega
    · obtain rfl : k = x.du.length := by omega
      have HE := Lib.hid (show outAt x.du s p = -1 from idx_none.2 fun d hd => by
        obtain ⟨j, hj, rfl⟩ := List.getElem_of_mem hd
        exact HQ.out j hj hj)
      go_wp2
      go_ret
      rw [HE.out]
      exact ⟨rfl, (Fr.refl _ _).alloc _⟩
open Classical in
noncomputable def Gr.dangB (g : Gr) (s : Nat) : Bool := decide (g.dang s)
open Classical in
theorem dangB_iff (g : Gr) (s : Nat) : g.dangB s = true ↔ g.dang s := by unfold Gr.dangB; exact decide_eq_true_iff
theorem dangB_yes {g : Gr} {s : Nat} (h : g.dang s) : g.dangB s = true := (dangB_iff g s).2 h
theorem dangB_no {g : Gr} {s : Nat} (h : ¬ g.dang s) : g.dangB s = false := by
  cases e : g.dangB s with
  | false => rfl
  | true => exact absurd ((dangB_iff g s).1 e) h
set_option maxHeartbeats 4000000 in
set_option maxRecDepth 100000 in
theorem dangling_ref (w : World) (x : Gv) (hx : x.Ok w) (hsm : Sml x) (s : Nat) (hs : s < x.sp.length) : Calls Try.prog 72 #[.agg #[.slice x.sa x.sp.length x.sc, .slice x.da x.du.length x.dc], .int .i64 s] w (RPost w (x.g.dangB s)) := by
  have HXB := Lib.hid (fun (W : World) (h : Fr No (w.alloc (.cells #[.slice x.sa x.sp.length x.sc, .slice x.da x.du.length x.dc] 63)) W) => hx.fr (((Fr.refl No w).alloc _).trans h))
  have HB := Lib.hid (fun (W : World) (h : Fr No (w.alloc (.cells #[.slice x.sa x.sp.length x.sc, .slice x.da x.du.length x.dc] 63)) W) => show W.cell? ⟨w.heap.size, 0, none⟩ = some (.slice x.sa x.sp.length x.sc) ∧ W.cell? ⟨w.heap.size, 1, none⟩ = some (.slice x.da x.du.length x.dc) from ⟨cell_block (box_block h) 0, cell_block (box_block h) 1⟩)
  have K0 := Lib.hid ((Fr.refl No w).alloc (.cells #[.slice x.sa x.sp.length x.sc, .slice x.da x.du.length x.dc] 63))
  have HI := Lib.hid (fun (W : World) (h : Fr No (w.alloc (.cells #[.slice x.sa x.sp.length x.sc, .slice x.da x.du.length x.dc] 63)) W) (p : Int) => in_ref W x (HXB.out W h) hsm.d s p)
  have HO := Lib.hid (fun (W : World) (h : Fr No (w.alloc (.cells #[.slice x.sa x.sp.length x.sc, .slice x.da x.du.length x.dc] 63)) W) (p : Int) => out_ref W x (HXB.out W h) hsm.d s p)
  have hmem := List.getElem_mem hs
  have HA := Lib.hid (fun (W : World) (h : Fr No (w.alloc (.cells #[.slice x.sa x.sp.length x.sc, .slice x.da x.du.length x.dc] 63)) W) => srarity_any x.sp[s] W ((HXB.out W h).sp _ hmem) (hsm.b _ hmem))
  have hfew := stg_few (x.sp[s]).s (hx.sp _ hmem).most
  have hin : ∀ q : Nat, (q : Int) < (x.sp[s]).s.ins → inAt x.du s q = -1 → x.g.dang s := fun q hq e => .inl ⟨q, by rw [x.s_at hs]; exact hq, e⟩
  have hou : ∀ q : Nat, (q : Int) < (x.sp[s]).s.outs → outAt x.du s q = -1 → x.g.dang s := fun q hq e => .inr ⟨q, by rw [x.s_at hs]; exact hq, e⟩
  have hno : (∀ q : Nat, (q : Int) < (x.sp[s]).s.ins → inAt x.du s q ≠ -1) → (∀ q : Nat, (q : Int) < (x.sp[s]).s.outs → outAt x.du s q ≠ -1) → ¬ x.g.dang s := fun h1 h2 h => by
    rcases h with ⟨k, hk, e⟩ | ⟨k, hk, e⟩
    · rw [x.s_at hs] at hk; exact h1 k hk e
    · rw [x.s_at hs] at hk; exact h2 k hk e
  have HIN := Lib.hid hin; have HOU := Lib.hid hou; have HNO := Lib.hid hno
  have HIR := Lib.hid (fun q : Nat => idx_range (inP (s : Int) (q : Int)) x.du)
  have HOR := Lib.hid (fun q : Nat => idx_range (outP (s : Int) (q : Int)) x.du)
  have HR := Lib.hid (Fr.refl No (w.alloc (.cells #[.slice x.sa x.sp.length x.sc, .slice x.da x.du.length x.dc] 63)))
  obtain ⟨gs, os, hsa, hsr⟩ := (HXB.out _ HR.out).st.flat sp_len (by decide) (by omega)
  obtain ⟨s0, s1, s2, s3⟩ := sp_cells hsr hs
  have c0 := (HB.out _ HR.out).1
  have c1 := (HB.out _ HR.out).2
  have hsi : (s : Int) < x.sp.length := by omega
  clear hx hsm hmem hin hou hno hsr
  generalize x.sa = sa0 at *
  subst hsa
  generalize x.sp[s] = sp at *
  obtain ⟨⟨pk, pn, pA, pB⟩, aA, cA, aB, cB⟩ := sp
  dsimp only at *
  generalize Stg.ins ⟨pk, pn, pA, pB⟩ = ins at *
  generalize Stg.outs ⟨pk, pn, pA, pB⟩ = outs at *
  generalize Stg.chk ⟨pk, pn, pA, pB⟩ = ch at *
  obtain ⟨f1, f2, f3, f4⟩ := hfew
  obtain ⟨ni, rfl⟩ : ∃ ni : Nat, ins = ni := ⟨ins.toNat, by omega⟩
  obtain ⟨no, rfl⟩ : ∃ no : Nat, outs = no := ⟨outs.toNat, by omega⟩
  go_enter Try.func72, Try.ntmps72
  go_wp2_with (go_at_call 31; refine (HA.out _ HR.out).mono ?_; rintro e w2 ⟨rfl, hf2⟩; have HF2 := Lib.hid hf2; clear hf2 c0 c1 s0 s1 s2 s3)
  go_loopw [8] (fun i wr => ∃ k : Nat, k ≤ ni ∧ i = .int .i64 k ∧ Hid (Fr No (w.alloc (.cells #[.slice (some ⟨gs, os, none⟩) x.sp.length x.sc, .slice x.da x.du.length x.dc] 63)) wr) ∧ Hid (∀ q : Nat, q < k → inAt x.du s q ≠ -1)) (fun i _ => ni - (intOf i).toNat)
  case atStart => exact ⟨0, Nat.zero_le _, rfl, HF2, Lib.hid (fun q hq => absurd hq (by omega))⟩
  case round =>
    obtain ⟨k, hk, rfl, HF, HQ⟩ := hrel
    clear HF2
    by_cases hlt : k < ni
    · have hki : (k : Int) < ni := by omega
      obtain ⟨c0, c1⟩ := HB.out _ HF.out
      have HC := Lib.hid (HI.out _ HF.out k)
      have hr := (HIR.out k).1
      have hyes := HIN.out k (by omega)
      unfold inAt at hyes HC
      by_cases hv : idxFrom (inP (s : Int) (k : Int)) x.du 0 = -1
      · have HE := Lib.hid (dangB_yes (hyes hv))
        rw [hv] at HC
        clear hyes hv hr
        go_wp2_with (go_at_call 79; refine HC.out.mono ?_; rintro e w4 ⟨rfl, hf4⟩)
        go_ret
        rw [HE.out]
        exact ⟨rfl, (K0.out.trans HF.out).trans hf4⟩
      · have hge : ¬ idxFrom (inP (s : Int) (k : Int)) x.du 0 < 0 := by omega
        have HN := Lib.hid (show ∀ q : Nat, q < k + 1 → inAt x.du s q ≠ -1 from fun q hq => by
          by_cases e : q = k
          · subst e; exact hv
          · exact HQ.out q (by omega))
        clear hyes hv hr
        generalize idxFrom (inP (s : Int) (k : Int)) x.du 0 = v at *
        go_wp2_with (go_at_call 79; refine HC.out.mono ?_; rintro e w4 ⟨rfl, hf4⟩; have HF4 := Lib.hid (HF.out.trans hf4); clear hf4)
        go_roundw
        case rel => exact ⟨k + 1, by omega, by go_num, HF4, HN⟩
        case measure => simp [intOf]; omega
    · obtain rfl : k = ni := by omega
      go_wp2
      go_loopw [9] (fun i wr => ∃ q : Nat, q ≤ no ∧ i = .int .i64 q ∧ Hid (Fr No (w.alloc (.cells #[.slice (some ⟨gs, os, none⟩) x.sp.length x.sc, .slice x.da x.du.length x.dc] 63)) wr) ∧ Hid (∀ p : Nat, p < q → outAt x.du s p ≠ -1)) (fun i _ => no - (intOf i).toNat)
      case atStart => exact ⟨0, Nat.zero_le _, rfl, HF, Lib.hid (fun q hq => absurd hq (by omega))⟩
      case round =>
        obtain ⟨q, hq, rfl, HFy, HQy⟩ := hrel
        by_cases hlq : q < no
        · have hqi : (q : Int) < no := by omega
          obtain ⟨c0, c1⟩ := HB.out _ HFy.out
          have HC := Lib.hid (HO.out _ HFy.out q)
          have hr := (HOR.out q).1
          have hyes := HOU.out q (by omega)
          unfold outAt at hyes HC
          by_cases hv : idxFrom (outP (s : Int) (q : Int)) x.du 0 = -1
          · have HE := Lib.hid (dangB_yes (hyes hv))
            rw [hv] at HC
            clear hyes hv hr
            go_wp2_with (go_at_call 80; refine HC.out.mono ?_; rintro e w4 ⟨rfl, hf4⟩)
            go_ret
            rw [HE.out]
            exact ⟨rfl, (K0.out.trans HFy.out).trans hf4⟩
          · have hge : ¬ idxFrom (outP (s : Int) (q : Int)) x.du 0 < 0 := by omega
            have HN := Lib.hid (show ∀ p : Nat, p < q + 1 → outAt x.du s p ≠ -1 from fun p hp => by
              by_cases e : p = q
              · subst e; exact hv
              · exact HQy.out p (by omega))
            clear hyes hv hr
            generalize idxFrom (outP (s : Int) (q : Int)) x.du 0 = v at *
            go_wp2_with (go_at_call 80; refine HC.out.mono ?_; rintro e w4 ⟨rfl, hf4⟩; have HF4 := Lib.hid (HFy.out.trans hf4); clear hf4)
            go_roundw
            case rel => exact ⟨q + 1, by omega, by go_num, HF4, HN⟩
            case measure => simp [intOf]; omega
        · obtain rfl : q = no := by omega
          have HE := Lib.hid (dangB_no (HNO.out (fun p hp => HQ.out p (by omega)) (fun p hp => HQy.out p (by omega))))
          go_wp2
          go_ret
          rw [HE.out]
          exact ⟨rfl, K0.out.trans HFy.out⟩
end Go.Proofs.Ytljldkknopmfhaa
