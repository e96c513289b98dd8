/- GraphPorts, walked. -/
import Derived.Test.YtljldkknopmfhaaGrV
namespace Go.Proofs.Ytljldkknopmfhaa
open Go.RowKit

set_option maxHeartbeats 8000000 in
set_option maxRecDepth 100000 in
theorem core_graphPorts (w : World) (x : Gv) (hx : x.Ok w) (s : Int) : Calls Try.prog 15 #[.agg #[.slice x.sa x.sp.length x.sc, .slice x.da x.du.length x.dc], .int .i64 s] w (RndPost w true) := by
  have HB := Lib.hid (fun (W : World) (h : Fr No (w.alloc (.cells #[.slice x.sa x.sp.length x.sc, .slice x.da x.du.length x.dc] 63)) W) => gbox w x h)
  have HXB := Lib.hid (fun (W : World) (h : Fr No (w.alloc (.cells #[.slice x.sa x.sp.length x.sc, .slice x.da x.du.length x.dc] 63)) W) => hx.fr (((Fr.refl No w).alloc _).trans h))
  have HLO := Lib.hid (long_any (w.alloc (.cells #[.slice x.sa x.sp.length x.sc, .slice x.da x.du.length x.dc] 63)) x (HXB.out _ (Fr.refl _ _)))
  have K0 := Lib.hid ((Fr.refl No w).alloc (.cells #[.slice x.sa x.sp.length x.sc, .slice x.da x.du.length x.dc] 63))
  by_cases hsm : Sml x
  · rw [longB_no hsm] at HLO
    have HIN := Lib.hid (fun (W : World) (h : Fr No (w.alloc (.cells #[.slice x.sa x.sp.length x.sc, .slice x.da x.du.length x.dc] 63)) W) => ins_graph W x (HXB.out W h) hsm s)
    have HOU := Lib.hid (fun (W : World) (h : Fr No (w.alloc (.cells #[.slice x.sa x.sp.length x.sc, .slice x.da x.du.length x.dc] 63)) W) => outs_graph W x (HXB.out W h) hsm s)
    have RIN := Lib.hid (fun (W : World) (h : Fr No (w.alloc (.cells #[.slice x.sa x.sp.length x.sc, .slice x.da x.du.length x.dc] 63)) W) => ins_ref W x (HXB.out W h) hsm s)
    have ROU := Lib.hid (fun (W : World) (h : Fr No (w.alloc (.cells #[.slice x.sa x.sp.length x.sc, .slice x.da x.du.length x.dc] 63)) W) => outs_ref W x (HXB.out W h) hsm s)
    have hl1 := (row_few hx s).1
    have hl2 := (row_few hx s).2
    have HS1 := Lib.hid (fun (W : World) (a b : Option Addr) (c d : Nat) (ha : At W a ((x.g.insL s).map iv)) (hb : At W b ((x.g.insL s).map iv)) => lints_same a b c d (x.g.insL s) _ _ rfl rfl W ha hb (by omega))
    have HS2 := Lib.hid (fun (W : World) (a b : Option Addr) (c d : Nat) (ha : At W a ((x.g.outsL s).map iv)) (hb : At W b ((x.g.outsL s).map iv)) => lints_same a b c d (x.g.outsL s) _ _ rfl rfl W ha hb (by omega))
    have HSM := Lib.hid hsm
    have HX := Lib.hid hx
    clear hx hsm hl1 hl2
    generalize x.g.insL s = L1 at *
    generalize x.g.outsL s = L2 at *
    go_enter Try.func15, Try.ntmps15
    go_upto_region 3 with (first
      | (go_at_call 41; refine HLO.out.mono ?_; rintro e w1 ⟨rfl, hf1⟩
         have HF1 := Lib.hid hf1
         have HC1 := Lib.hid (HB.out _ (hf1.trans (Fr.refl No w1).drew))
         clear hf1))
    go_region_held3 (fun W => W.cell? ⟨w.heap.size, 0, none⟩ = some (.slice x.sa x.sp.length x.sc) ∧ W.cell? ⟨w.heap.size, 1, none⟩ = some (.slice x.da x.du.length x.dc))
      (first | exact HC1.out | exact HC2.out | exact HC3.out)
      (first
        | (go_at_call 50; refine (HIN.out _ (HF1.out.trans (Fr.refl No w1).drew)).mono ?_; rintro e w2 ⟨a2, b2, rfl, hat2, hf2⟩
           have HF2 := Lib.hid ((HF1.out.trans (Fr.refl No w1).drew).trans hf2)
           have HC2 := Lib.hid (HB.out _ HF2.out)
           have HA2 := Lib.hid hat2
           clear hf2 hat2)
        | (go_at_call 51; refine (HOU.out _ HF2.out).mono ?_; rintro e w3 ⟨a3, b3, rfl, hat3, hf3⟩
           have HF3 := Lib.hid (HF2.out.trans hf3)
           have HC3 := Lib.hid (HB.out _ HF3.out)
           have HA3 := Lib.hid hat3
           have HA23 := Lib.hid (at_keep HA2.out hf3)
           clear hf3 hat3))
    obtain ⟨c0, c1⟩ := HC3.out
    go_upto_region 6 with (first
      | (go_at_call 52; refine (RIN.out _ HF3.out).mono ?_; rintro e w4 ⟨a4, b4, rfl, hat4, hf4⟩
         have HF4 := Lib.hid (HF3.out.trans hf4)
         have HA24 := Lib.hid (at_keep HA23.out hf4); have HA34 := Lib.hid (at_keep HA3.out hf4); have HA4 := Lib.hid hat4
         clear hf4 hat4 c0 c1)
      | (go_at_call_of 49 (Value.slice a2 L1.length b2); refine (HS1.out _ _ _ _ _ HA24.out HA4.out).mono ?_; rintro e w5 ⟨rfl, hf5⟩
         have HF5 := Lib.hid (HF4.out.trans hf5)
         have HA35 := Lib.hid (at_keep HA34.out hf5)
         obtain ⟨c0, c1⟩ := HB.out _ HF5.out
         clear hf5)
      | (go_at_call 53; refine (ROU.out _ HF5.out).mono ?_; rintro e w6 ⟨a6, b6, rfl, hat6, hf6⟩
         have HF6 := Lib.hid (HF5.out.trans hf6)
         have HA36 := Lib.hid (at_keep HA35.out hf6); have HA6 := Lib.hid hat6
         clear hf6 hat6 c0 c1)
      | (go_at_call_of 49 (Value.slice a3 L2.length b3); refine (HS2.out _ _ _ _ _ HA36.out HA6.out).mono ?_; rintro e w7 ⟨rfl, hf7⟩
         have HF7 := Lib.hid (HF6.out.trans hf7)
         obtain ⟨c0, c1⟩ := HB.out _ HF7.out
         clear hf7))
    have HOW := Lib.hid (fun (W : World) (h : Fr No (w.alloc (.cells #[.slice x.sa x.sp.length x.sc, .slice x.da x.du.length x.dc] 63)) W) => rown_graph W x (HXB.out W h) HSM.out)
    have HPO := Lib.hid (fun (W : World) (h : Fr No (w.alloc (.cells #[.slice x.sa x.sp.length x.sc, .slice x.da x.du.length x.dc] 63)) W) => own_graph W x (HXB.out W h) HSM.out)
    have HFD := Lib.hid (HF7.out.trans (Fr.refl No w7).drew)
    clear HIN HOU RIN ROU HS1 HS2 HA2 HA3 HA4 HA6 HA23 HA24 HA34 HA35 HA36 HC1 HC2 HC3 HF1 HF2 HF3 HF4 HF5 HF6 HLO
    go_cut [7, 8] from 35 to 38 (fun v7 v8 wx => ∃ b7 b8 lo yw yh, v7 = .pointer (some ⟨b7, 0, none⟩) ∧ v8 = .pointer (some ⟨b8, 0, none⟩) ∧ Hid (W6 w x b7 b8 lo yw yh wx))
    case first =>
      have HGD := Lib.hid (HB.out _ HFD.out)
      have hw7 : w.heap.size < w7.heap.size := by have := HF7.out.size; simp at this; omega
      have r20 : ∀ W : World, ((W.alloc (.cells #[.slice none 0 0, .slice none 0 0] 63)).alloc (.cells #[.slice none 0 0, .slice none 0 0] 63)).cell? ⟨W.heap.size, 0, none⟩ = some (.slice none 0 0) := fun W => (((zb_new W rfl).fr ((Fr.refl No _).alloc _))).cells.1
      have r21 : ∀ W : World, ((W.alloc (.cells #[.slice none 0 0, .slice none 0 0] 63)).alloc (.cells #[.slice none 0 0, .slice none 0 0] 63)).cell? ⟨W.heap.size, 1, none⟩ = some (.slice none 0 0) := fun W => (((zb_new W rfl).fr ((Fr.refl No _).alloc _))).cells.2.1
      have r20f : ∀ W : World, ((W.alloc (.cells #[.slice none 0 0, .slice none 0 0] 63)).alloc (.cells #[.slice none 0 0, .slice none 0 0] 63)).frozen? ⟨W.heap.size, 0, none⟩ = false := fun W => (((zb_new W rfl).fr ((Fr.refl No _).alloc _))).cells.2.2.1
      have r21f : ∀ W : World, ((W.alloc (.cells #[.slice none 0 0, .slice none 0 0] 63)).alloc (.cells #[.slice none 0 0, .slice none 0 0] 63)).frozen? ⟨W.heap.size, 1, none⟩ = false := fun W => (((zb_new W rfl).fr ((Fr.refl No _).alloc _))).cells.2.2.2
      clear c0 c1
      go_region_held3 (fun W => W.cell? ⟨w.heap.size, 0, none⟩ = some (.slice x.sa x.sp.length x.sc) ∧ W.cell? ⟨w.heap.size, 1, none⟩ = some (.slice x.da x.du.length x.dc))
        (((repeat (with_reducible refine s_set (by omega) ?_)); (first | with_reducible assumption | with_reducible exact HGD.out | with_reducible exact HB.out _ (HFD.out.alloc _) | with_reducible exact HB.out _ ((HFD.out.alloc _).alloc _) | with_reducible exact HG8.out | with_reducible exact HB.out _ (HF8.out.alloc _) | with_reducible exact HB.out _ ((HF8.out.alloc _).alloc _) | with_reducible exact HG9.out | with_reducible exact HB.out _ (HF9.out.alloc _) | with_reducible exact HB.out _ ((HF9.out.alloc _).alloc _) | exact HB.out _ (HFD.out.alloc _) | exact HB.out _ ((HFD.out.alloc _).alloc _))))
        (first
          | (go_at_call 43; refine (HOW.out _ (by first | exact HFD.out | exact HFD.out.alloc _ | exact (HFD.out.alloc _).alloc _)).mono ?_; rintro e w8 ⟨yw, rfl, hyg, hyok, hf8, hr2⟩
             have HF8 : Hid (Fr No (w.alloc (.cells #[.slice x.sa x.sp.length x.sc, .slice x.da x.du.length x.dc] 63)) w8) := by first | exact Lib.hid (HFD.out.trans hf8) | exact Lib.hid ((HFD.out.alloc _).trans hf8) | exact Lib.hid (((HFD.out.alloc _).alloc _).trans hf8)
             have HG8 := Lib.hid (HB.out _ HF8.out)
             have HYG := Lib.hid hyg; have HYO := Lib.hid hyok; have HR2 := Lib.hid hr2
             have h78 : w7.heap.size ≤ w8.heap.size := by first | (have := hf8.size; simp at this; omega) | (have := hf8.size; omega)
             first
               | (have z1 := (zb_new w7.drew (n := w7.heap.size) rfl).fr hf8
                  have HZ1 := Lib.hid z1; clear z1)
               | (have z1 := ((zb_new w7.drew (n := w7.heap.size) rfl).fr ((Fr.refl No _).alloc _)).fr hf8
                  have z2 := (zb_new (w7.drew.alloc (.cells #[.slice none 0 0, .slice none 0 0] 63)) (n := w7.heap.size + 1) (by simp)).fr hf8
                  have HZ1 := Lib.hid z1; have HZ2 := Lib.hid z2; clear z1 z2)
               | skip
             clear hf8 hyg hyok hr2)
          | (go_at_call 54; refine (HPO.out _ (by first | exact HF8.out | exact HF8.out.alloc _ | exact (HF8.out.alloc _).alloc _)).mono ?_; rintro e w9 ⟨yh, rfl, hzg, hzok, hf9, hmine⟩
             have HF9 : Hid (Fr No (w.alloc (.cells #[.slice x.sa x.sp.length x.sc, .slice x.da x.du.length x.dc] 63)) w9) := by first | exact Lib.hid (HF8.out.trans hf9) | exact Lib.hid ((HF8.out.alloc _).trans hf9) | exact Lib.hid (((HF8.out.alloc _).alloc _).trans hf9)
             have HG9 := Lib.hid (HB.out _ HF9.out)
             have HF89 : Hid (Fr No w8 w9) := by first | exact Lib.hid hf9 | exact Lib.hid (((Fr.refl No w8).alloc _).trans hf9) | exact Lib.hid ((((Fr.refl No w8).alloc _).alloc _).trans hf9)
             have HQ := Lib.hid (show Q6 w x yw yh _ w9 from ⟨box_block HF9.out, HYG.out, hzg, HYO.out.fr HF89.out, HR2.out.fr HF89.out, hzok, HYO.out.below.le (by first | exact Nat.le_refl _ | (simp; done) | (simp; omega)), hmine, K0.out.trans HF9.out, by first | omega | (simp; omega)⟩)
             have h89 : w8.heap.size ≤ w9.heap.size := by first | (have := hf9.size; simp at this; omega) | (have := hf9.size; omega)
             first
               | (have HY1 := Lib.hid (HZ1.out.fr hf9); have HY2 := Lib.hid (HZ2.out.fr hf9))
               | (have HY1 := Lib.hid ((HZ1.out.fr ((Fr.refl No w8).alloc _)).fr hf9); have HY2 := Lib.hid ((zb_new w8 (n := w8.heap.size) rfl).fr hf9))
               | (have HY1 := Lib.hid (HZ1.out.fr hf9))
               | (have HY1 := Lib.hid (((zb_new w8 (n := w8.heap.size) rfl).fr ((Fr.refl No _).alloc _)).fr hf9); have HY2 := Lib.hid ((zb_new (w8.alloc (.cells #[.slice none 0 0, .slice none 0 0] 63)) (n := w8.heap.size + 1) (by simp)).fr hf9))
               | (have HY1 := Lib.hid ((zb_new w8 (n := w8.heap.size) rfl).fr hf9))
               | skip
             try (have q1 := Nat.ne_of_lt (heap_lt HY1.out); have q2 := Nat.ne_of_gt (heap_lt HY1.out))
             try (have q3 := Nat.ne_of_lt (heap_lt HZ1.out); have q4 := Nat.ne_of_gt (heap_lt HZ1.out))
             try (obtain ⟨y10, y11, y10f, y11f⟩ := HY1.out.cells)
             try (obtain ⟨y20, y21, y20f, y21f⟩ := HY2.out.cells)
             try (have x10 := fun o => (HY1.out.fr ((Fr.refl No w9).alloc o)).cells.1; have x11 := fun o => (HY1.out.fr ((Fr.refl No w9).alloc o)).cells.2.1; have x10f := fun o => (HY1.out.fr ((Fr.refl No w9).alloc o)).cells.2.2.1; have x11f := fun o => (HY1.out.fr ((Fr.refl No w9).alloc o)).cells.2.2.2)
             clear hf9 hzg hzok hmine))
      all_goals (go_wp2_with fail; go_meet)
      all_goals (first
        | with_reducible exact ⟨_, _, _, yw, yh, rfl, rfl, Lib.hid (fin1 HQ.out)⟩
        | with_reducible exact ⟨_, _, _, yw, yh, rfl, rfl, Lib.hid (fin1b HQ.out)⟩
        | with_reducible exact ⟨_, _, _, yw, yh, rfl, rfl, Lib.hid (fin3 HQ.out HY1.out (by omega))⟩
        | with_reducible exact ⟨_, _, _, yw, yh, rfl, rfl, Lib.hid (fin2 HQ.out HY1.out HY2.out (by omega) (by omega) (by omega))⟩
        | with_reducible exact ⟨_, _, _, yw, yh, rfl, rfl, Lib.hid (fin2 HQ.out HY2.out HY1.out (by omega) (by omega) (by omega))⟩
        | with_reducible exact ⟨_, _, _, yw, yh, rfl, rfl, Lib.hid (fin2 (HQ.out.keep ((Fr.refl No w9).alloc _)) (HY1.out.fr ((Fr.refl No w9).alloc _)) (zb_new w9 rfl) (by omega) (by omega) (by omega))⟩)
    case rest =>
      obtain ⟨b7, b8, lo, yw, yh, rfl, rfl, HW⟩ := hcut
      have hmy := (sml_g HSM.out HW.out.gh).1
      have HMY := Lib.hid hmy
      have HRS := Lib.hid (rsame_graph wc yh x HW.out.okh (HX.out.fr HW.out.fr) HW.out.gh hmy)
      have HGX := Lib.hid (fun (W : World) (h : Fr No wc W) => show W.heap[b8]? = _ ∧ W.heap[w.heap.size]? = _ ∧ W.heap[b7]? = _ from ⟨(h.block _ (heap_lt HW.out.h8) (fun _ z => z)).trans HW.out.h8, (h.block _ (heap_lt HW.out.gb) (fun _ z => z)).trans HW.out.gb, (h.block _ (heap_lt HW.out.h7) (fun _ z => z)).trans HW.out.h7⟩)
      clear hmy c0 c1
      have c0 := cell_block HW.out.gb 0
      have c1 := cell_block HW.out.gb 1
      have e0 := cell_block HW.out.h8 0
      have e1 := cell_block HW.out.h8 1
      go_wp2_with (first
        | (go_at_call 46; refine HRS.out.mono ?_; rintro e wd ⟨rfl, hfd⟩
           have HFD := Lib.hid hfd
           clear c0 c1 e0 e1 hfd))
      obtain ⟨gs, os, gd, od, hm0⟩ := HM.start HW.out HX.out HFD.out
      have HM0 := Lib.hid hm0
      have hys : (yh.sp.length : Int) ≤ 200 := by have := HMY.out.s; omega
      have hyd : (yh.du.length : Int) ≤ 200 := by have := HMY.out.d; omega
      clear hm0
      go_loopw [9] (fun i wr => ∃ n : Nat, n ≤ yh.sp.length ∧ i = .int .i64 n ∧ Hid (HM w x b7 b8 lo yw yh gs os gd od wr)) (fun i _ => yh.sp.length - (intOf i).toNat)
      case atStart => exact ⟨0, Nat.zero_le _, rfl, HM0⟩
      case round =>
        obtain ⟨n, hn, rfl, HN⟩ := hrel
        clear HM0
        have e0 : wr.cell? ⟨b8, 0, none⟩ = some (.slice yh.sa yh.sp.length yh.sc) := cell_block HN.out.h8 0
        by_cases hlt : n < yh.sp.length
        · have hni : (n : Int) < yh.sp.length := by omega
          have hla : (yh.sp[n]).s.A.length ≤ 2000 := (HMY.out.b _ (List.getElem_mem hlt)).1
          have hlai : ((yh.sp[n]).s.A.length : Int) ≤ 2000 := by omega
          go_wp2
          clear e0
          go_loopw [10] (fun i wy => ∃ k : Nat, k ≤ (yh.sp[n]).s.A.length ∧ i = .int .i64 k ∧ Hid (HM w x b7 b8 lo yw yh gs os gd od wy)) (fun i _ => (yh.sp[n]).s.A.length - (intOf i).toNat)
          case atStart => exact ⟨0, Nat.zero_le _, rfl, HN⟩
          case round =>
            obtain ⟨k, hk, rfl, HK⟩ := hrel
            clear HN
            obtain ⟨k1, k2, k3⟩ := HK.out.sa (by omega)
            have e2 : wr.cell? ⟨b8, 0, none⟩ = some (.slice (some ⟨gs, os, none⟩) yh.sp.length yh.sc) := (cell_block HK.out.h8 0).trans (by rw [k1]; rfl)
            obtain ⟨c2, v1, c1⟩ := HK.out.st n hlt
            have f1 := k3.frozen (os + n * 4 + 1)
            clear k1 k2 k3
            have HBY := Lib.hid (fun h0 => HK.out.by_ n hlt h0)
            by_cases hlk : k < (yh.sp[n]).s.A.length
            · obtain ⟨g, off, q1, q2, q3, q4⟩ := HBY.out (by omega)
              obtain ⟨z, hz⟩ := q4 k hlk
              have f2 := q3.frozen (off + k)
              have hki : (k : Int) < (yh.sp[n]).s.A.length := by omega
              rw [q1] at c2
              have hz' : wr.cell? ⟨g, off + k, none⟩ = some (.int .u8 z.toNat) := hz
              clear hz q4 q1
              have HZ := Lib.hid (show ∃ z' : UInt8, Value.int .u8 (((z.toNat : Int) + 1) % 256) = bv z' from by
                refine ⟨z + 1, ?_⟩
                have h1 : (z + 1).toNat = (z.toNat + 1) % 256 := by rw [UInt8.toNat_add]; rfl
                have h2 : (((z + 1).toNat : Nat) : Int) = ((z.toNat : Int) + 1) % 256 := by omega
                show _ = Value.int .u8 (((z + 1).toNat : Nat) : Int)
                rw [h2])
              go_wp2
              exact ⟨⟨k + 1, by omega, by go_num, Lib.hid (HK.out.set q2 q3 (by decide) (fun h0 e => absurd e (Ty.ne q3 (HK.out.sa h0).2.2 (by decide))) (fun _ => HZ.out))⟩, by simp [intOf]; omega⟩
            · obtain rfl : k = (yh.sp[n]).s.A.length := by omega
              go_wp2
              exact ⟨⟨n + 1, by omega, by go_num, Lib.hid (HK.out.set (HK.out.sa (by omega)).2.1 (HK.out.sa (by omega)).2.2 (by decide) (fun _ _ q _ => by omega) (fun e => absurd e (by decide)))⟩, by simp [intOf]; omega⟩
        · obtain rfl : n = yh.sp.length := by omega
          go_wp2
          clear e0
          go_loopw [11] (fun i wy => ∃ k : Nat, k ≤ yh.du.length ∧ i = .int .i64 k ∧ Hid (HM w x b7 b8 lo yw yh gs os gd od wy)) (fun i _ => yh.du.length - (intOf i).toNat)
          case atStart => exact ⟨0, Nat.zero_le _, rfl, HN⟩
          case round =>
            obtain ⟨k, hk, rfl, HK⟩ := hrel
            clear HN
            have e1 : wr.cell? ⟨b8, 1, none⟩ = some (.slice yh.da yh.du.length yh.dc) := cell_block HK.out.h8 1
            by_cases hlk : k < yh.du.length
            · have hki : (k : Int) < yh.du.length := by omega
              obtain ⟨k1, k2, k3⟩ := HK.out.da (by omega)
              have e2 : wr.cell? ⟨b8, 1, none⟩ = some (.slice (some ⟨gd, od, none⟩) yh.du.length yh.dc) := e1.trans (by rw [k1])
              obtain ⟨v4, d4⟩ := HK.out.du k hlk
              have f4 := k3.frozen (od + k * 5 + 4)
              clear e1 k1
              go_wp2
              exact ⟨⟨k + 1, by omega, by go_num, Lib.hid (HK.out.set k2 k3 (by decide) (fun h0 e => absurd e (Ty.ne k3 (HK.out.sa h0).2.2 (by decide))) (fun e => absurd e (by decide)))⟩, by simp [intOf]; omega⟩
            · obtain rfl : k = yh.du.length := by omega
              have g0 := cell_block HK.out.gb 0
              have g1 := cell_block HK.out.gb 1
              have g2 := cell_block HK.out.h7 0
              have g3 := cell_block HK.out.h7 1
              have HRX := Lib.hid (rsame_graph wr x yw HK.out.okx HK.out.okw HW.out.gw.symm HSM.out)
              go_wp2_with (first
                | (go_at_call 46; refine HRX.out.mono ?_; rintro e we ⟨rfl, hfe⟩
                   have HFE := Lib.hid (HK.out.fr.trans hfe)
                   clear g0 g1 g2 g3 e1 hfe)
                | (go_at_call 42; refine (awake20 _).mono ?_; rintro e wf ⟨rfl, hff⟩))
              go_ret
              exact ⟨rfl, HFE.out.trans hff⟩
  · rw [longB_yes hsm] at HLO
    clear hx hsm
    go_enter Try.func15, Try.ntmps15
    go_wp2_with (first
      | (go_at_call 41; refine HLO.out.mono ?_; rintro e w1 ⟨rfl, hf1⟩)
      | (go_at_call 42; refine (awake20 _).mono ?_; rintro e w3 ⟨rfl, hf3⟩))
    go_ret
    exact ⟨rfl, (K0.out.trans hf1).trans hf3⟩
theorem walk_graphPorts (w : World) {v : Value} (x : Gv) (h : IsGr w v x) (s : Int) (_ : (Lit.int .i64 s).wf = true) : Calls Try.prog 15 #[v, .int .i64 s] w (RndPost w true) := by
  obtain ⟨rfl, hx⟩ := h
  exact core_graphPorts w x hx s
end Go.Proofs.Ytljldkknopmfhaa
