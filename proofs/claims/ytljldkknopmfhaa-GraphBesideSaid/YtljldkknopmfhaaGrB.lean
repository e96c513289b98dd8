/- GraphBeside, walked. -/
import Derived.Test.YtljldkknopmfhaaGrJ
import Derived.Deep.RegionHeld3
import Derived.Deep.DeepCutAuto
namespace Go.Proofs.Ytljldkknopmfhaa
open Go.RowKit

/-- The world behind the two boxes. -/
abbrev W0J (w : World) (x y : Gv) : World := (w.alloc (.cells #[.slice x.sa x.sp.length x.sc, .slice x.da x.du.length x.dc] 63)).alloc (.cells #[.slice y.sa y.sp.length y.sc, .slice y.da y.du.length y.dc] 63)
theorem fr0J (w : World) (x y : Gv) : Fr No w (W0J w x y) := ((Fr.refl No w).alloc _).alloc _
set_option maxHeartbeats 4000000 in
set_option maxRecDepth 100000 in
theorem beside_long1 (w : World) (x y : Gv) (hx : x.Ok w) (hs : ¬ Sml x) : Calls Try.prog 14 #[.agg #[.slice x.sa x.sp.length x.sc, .slice x.da x.du.length x.dc], .agg #[.slice y.sa y.sp.length y.sc, .slice y.da y.du.length y.dc]] w (RndPost w true) := by
  have HB := Lib.hid (gboxJ w x y (Fr.refl _ _))
  have HLX := Lib.hid (long_any (W0J w x y) x (hx.fr (fr0J w x y)))
  rw [longB_yes hs] at HLX
  have K0 := Lib.hid (fr0J w x y)
  clear hx hs
  obtain ⟨⟨c0, c1⟩, d0, d1⟩ := HB.out
  clear HB
  unfold W0J at HLX K0
  go_enter Try.func14, Try.ntmps14
  go_wp2_with (first
    | (go_at_call 41; refine HLX.out.mono ?_; rintro e w1 ⟨rfl, hf1⟩)
    | (go_at_call 42; refine (awake20 _).mono ?_; rintro e w3 ⟨rfl, hf3⟩))
  go_ret
  exact ⟨rfl, (K0.out.trans hf1).trans hf3⟩
set_option maxHeartbeats 4000000 in
set_option maxRecDepth 100000 in
theorem beside_long2 (w : World) (x y : Gv) (hx : x.Ok w) (hy : y.Ok w) (hsx : Sml x) (hs : ¬ Sml y) : Calls Try.prog 14 #[.agg #[.slice x.sa x.sp.length x.sc, .slice x.da x.du.length x.dc], .agg #[.slice y.sa y.sp.length y.sc, .slice y.da y.du.length y.dc]] w (RndPost w true) := by
  have HB := Lib.hid (fun (W : World) (h : Fr No (W0J w x y) W) => gboxJ w x y h)
  have HLX := Lib.hid (long_any (W0J w x y) x (hx.fr (fr0J w x y)))
  rw [longB_no hsx] at HLX
  have HLY := Lib.hid (fun (W : World) (h : Fr No (W0J w x y) W) => long_any W y (hy.fr ((fr0J w x y).trans h)))
  rw [longB_yes hs] at HLY
  have K0 := Lib.hid (fr0J w x y)
  clear hx hy hsx hs
  obtain ⟨⟨c0, c1⟩, -⟩ := HB.out _ (Fr.refl _ _)
  unfold W0J at HLX HLY K0 HB
  go_enter Try.func14, Try.ntmps14
  go_wp2_with (first
    | (go_at_call 41; refine (HLY.out _ HF1.out).mono ?_; rintro e w2 ⟨rfl, hf2⟩
       have HF2 := Lib.hid (HF1.out.trans hf2)
       clear c0 c1 HF1)
    | (go_at_call 41; refine HLX.out.mono ?_; rintro e w1 ⟨rfl, hf1⟩
       have HF1 := Lib.hid hf1
       clear c0 c1
       obtain ⟨-, c0, c1⟩ := HB.out _ hf1
       clear hf1)
    | (go_at_call 42; refine (awake20 _).mono ?_; rintro e w3 ⟨rfl, hf3⟩))
  go_ret
  exact ⟨rfl, (K0.out.trans HF2.out).trans hf3⟩
set_option maxHeartbeats 4000000 in
set_option maxRecDepth 100000 in
theorem beside_bad1 (w : World) (x y : Gv) (hx : x.Ok w) (hy : y.Ok w) (hsx : Sml x) (hsy : Sml y) (hck : x.g.check.2 ≠ 0) : Calls Try.prog 14 #[.agg #[.slice x.sa x.sp.length x.sc, .slice x.da x.du.length x.dc], .agg #[.slice y.sa y.sp.length y.sc, .slice y.da y.du.length y.dc]] w (RndPost w true) := by
  have HB := Lib.hid (fun (W : World) (h : Fr No (W0J w x y) W) => gboxJ w x y h)
  have HLX := Lib.hid (long_any (W0J w x y) x (hx.fr (fr0J w x y)))
  rw [longB_no hsx] at HLX
  have HLY := Lib.hid (fun (W : World) (h : Fr No (W0J w x y) W) => long_any W y (hy.fr ((fr0J w x y).trans h)))
  rw [longB_no hsy] at HLY
  have HOX := Lib.hid (fun (W : World) (h : Fr No (W0J w x y) W) => order_graph W x (hx.fr ((fr0J w x y).trans h)) hsx)
  have HOY := Lib.hid (fun (W : World) (h : Fr No (W0J w x y) W) => order_graph W y (hy.fr ((fr0J w x y).trans h)) hsy)
  unfold OrderPost at HOX HOY
  have K0 := Lib.hid (fr0J w x y)
  have hcb : (x.g.check.2 != 0) = true := by simpa using hck
  clear hx hy hsx hsy hck
  obtain ⟨⟨c0, c1⟩, -⟩ := HB.out _ (Fr.refl _ _)
  unfold W0J at HLX HLY K0 HB HOX HOY
  generalize x.g.check = ck at *
  generalize y.g.check = dk at *
  generalize x.g.orderL = lx at *
  generalize y.g.orderL = ly at *
  go_enter Try.func14, Try.ntmps14
  go_wp2_with (first
    | (go_at_call 41; refine (HLY.out _ HF1.out).mono ?_; rintro e w2 ⟨rfl, hf2⟩
       have HF2 := Lib.hid (HF1.out.trans hf2)
       clear c0 c1
       obtain ⟨⟨c0, c1⟩, -⟩ := HB.out _ HF2.out
       clear hf2 HLX HLY)
    | (go_at_call 41; refine HLX.out.mono ?_; rintro e w1 ⟨rfl, hf1⟩
       have HF1 := Lib.hid hf1
       clear c0 c1
       obtain ⟨-, c0, c1⟩ := HB.out _ hf1
       clear hf1)
    | (go_at_call 47; refine (HOY.out _ HF3.out).mono ?_; rintro e w4 ⟨lb, lbc, rfl, hatb, hf4⟩
       have HF4 := Lib.hid (HF3.out.trans hf4); have HA4 := Lib.hid (at_keep HA3.out hf4); have HB4 := Lib.hid hatb
       clear c0 c1 hf4 hatb HOY)
    | (go_at_call 47; refine (HOX.out _ HF2.out).mono ?_; rintro e w3 ⟨la, lac, rfl, hata, hf3⟩
       have HF3 := Lib.hid (HF2.out.trans hf3); have HA3 := Lib.hid hata
       clear c0 c1
       obtain ⟨-, c0, c1⟩ := HB.out _ HF3.out
       clear hf3 hata HOX)
    | (go_at_call 42; refine (awake20 _).mono ?_; rintro e w5 ⟨rfl, hf5⟩))
  go_ret
  exact ⟨rfl, (K0.out.trans HF4.out).trans hf5⟩
set_option maxHeartbeats 4000000 in
set_option maxRecDepth 100000 in
theorem beside_bad2 (w : World) (x y : Gv) (hx : x.Ok w) (hy : y.Ok w) (hsx : Sml x) (hsy : Sml y) (hok : x.g.check.2 = 0) (hck : y.g.check.2 ≠ 0) : Calls Try.prog 14 #[.agg #[.slice x.sa x.sp.length x.sc, .slice x.da x.du.length x.dc], .agg #[.slice y.sa y.sp.length y.sc, .slice y.da y.du.length y.dc]] w (RndPost w true) := by
  have HB := Lib.hid (fun (W : World) (h : Fr No (W0J w x y) W) => gboxJ w x y h)
  have HLX := Lib.hid (long_any (W0J w x y) x (hx.fr (fr0J w x y)))
  rw [longB_no hsx] at HLX
  have HLY := Lib.hid (fun (W : World) (h : Fr No (W0J w x y) W) => long_any W y (hy.fr ((fr0J w x y).trans h)))
  rw [longB_no hsy] at HLY
  have HOX := Lib.hid (fun (W : World) (h : Fr No (W0J w x y) W) => order_graph W x (hx.fr ((fr0J w x y).trans h)) hsx)
  have HOY := Lib.hid (fun (W : World) (h : Fr No (W0J w x y) W) => order_graph W y (hy.fr ((fr0J w x y).trans h)) hsy)
  unfold OrderPost at HOX HOY
  have K0 := Lib.hid (fr0J w x y)
  rw [hok] at HOX
  have hcb : (y.g.check.2 != 0) = true := by simpa using hck
  clear hx hy hsx hsy hck hok
  obtain ⟨⟨c0, c1⟩, -⟩ := HB.out _ (Fr.refl _ _)
  unfold W0J at HLX HLY K0 HB HOX HOY
  generalize y.g.check = dk at *
  generalize x.g.orderL = lx at *
  generalize y.g.orderL = ly at *
  go_enter Try.func14, Try.ntmps14
  go_wp2_with (first
    | (go_at_call 41; refine (HLY.out _ HF1.out).mono ?_; rintro e w2 ⟨rfl, hf2⟩
       have HF2 := Lib.hid (HF1.out.trans hf2)
       clear c0 c1
       obtain ⟨⟨c0, c1⟩, -⟩ := HB.out _ HF2.out
       clear hf2 HLX HLY)
    | (go_at_call 41; refine HLX.out.mono ?_; rintro e w1 ⟨rfl, hf1⟩
       have HF1 := Lib.hid hf1
       clear c0 c1
       obtain ⟨-, c0, c1⟩ := HB.out _ hf1
       clear hf1)
    | (go_at_call 47; refine (HOY.out _ HF3.out).mono ?_; rintro e w4 ⟨lb, lbc, rfl, hatb, hf4⟩
       have HF4 := Lib.hid (HF3.out.trans hf4); have HA4 := Lib.hid (at_keep HA3.out hf4); have HB4 := Lib.hid hatb
       clear c0 c1 hf4 hatb HOY)
    | (go_at_call 47; refine (HOX.out _ HF2.out).mono ?_; rintro e w3 ⟨la, lac, rfl, hata, hf3⟩
       have HF3 := Lib.hid (HF2.out.trans hf3); have HA3 := Lib.hid hata
       clear c0 c1
       obtain ⟨-, c0, c1⟩ := HB.out _ HF3.out
       clear hf3 hata HOX)
    | (go_at_call 42; refine (awake20 _).mono ?_; rintro e w5 ⟨rfl, hf5⟩))
  go_ret
  exact ⟨rfl, (K0.out.trans HF4.out).trans hf5⟩
set_option maxHeartbeats 40000000 in
set_option maxRecDepth 100000 in
theorem beside_main (w : World) (x y : Gv) (hx : x.Ok w) (hy : y.Ok w) (hsx : Sml x) (hsy : Sml y) (wx : x.g.Whole) (wy : y.g.Whole) : Calls Try.prog 14 #[.agg #[.slice x.sa x.sp.length x.sc, .slice x.da x.du.length x.dc], .agg #[.slice y.sa y.sp.length y.sc, .slice y.da y.du.length y.dc]] w (RndPost w true) := by
  have HB := Lib.hid (fun (W : World) (h : Fr No (W0J w x y) W) => gboxJ w x y h)
  have HLX := Lib.hid (long_any (W0J w x y) x (hx.fr (fr0J w x y)))
  rw [longB_no hsx] at HLX
  have HLY := Lib.hid (fun (W : World) (h : Fr No (W0J w x y) W) => long_any W y (hy.fr ((fr0J w x y).trans h)))
  rw [longB_no hsy] at HLY
  have HOX := Lib.hid (fun (W : World) (h : Fr No (W0J w x y) W) => order_graph W x (hx.fr ((fr0J w x y).trans h)) hsx)
  have HOY := Lib.hid (fun (W : World) (h : Fr No (W0J w x y) W) => order_graph W y (hy.fr ((fr0J w x y).trans h)) hsy)
  unfold OrderPost at HOX HOY
  have K0 := Lib.hid (fr0J w x y)
  rw [(check_ok x.g).2 wx] at HOX
  rw [(check_ok y.g).2 wy] at HOY
  have hn1 : x.sp.length ≤ 16 := by have := wx.ns; rwa [x.st_len] at this
  have hn2 : y.sp.length ≤ 16 := by have := wy.ns; rwa [y.st_len] at this
  have hd1 : x.du.length ≤ 64 := by have := wx.nd; rwa [x.du_len] at this
  have hd2 : y.du.length ≤ 64 := by have := wy.nd; rwa [y.du_len] at this
  have hxl := (orderL_whole wx).2
  have hyl := (orderL_whole wy).2
  rw [x.st_len] at hxl; rw [y.st_len] at hyl
  have HXL := Lib.hid hxl; have HYL := Lib.hid hyl
  have HWX := Lib.hid wx; have HWY := Lib.hid wy; have HSX := Lib.hid hsx; have HSY := Lib.hid hsy
  have HX := Lib.hid hx; have HY := Lib.hid hy
  have HLA := Lib.hid (fun (k : Nat) (hk : k < x.g.orderL.length) => orderL_at wx hk)
  have HLB := Lib.hid (fun (k : Nat) (hk : k < y.g.orderL.length) => orderL_at wy hk)
  have HJM := Lib.hid (fun (W : World) sa sc da dc (h : (joinV x y sa sc da dc).Ok W) hm => order_join_many W x y sa sc da dc h (join_sml hsx hsy wx wy sa sc da dc) hm)
  have HJO := Lib.hid (fun (W : World) sa sc da dc (h : (joinV x y sa sc da dc).Ok W) h1 h2 => order_join_ok W x y sa sc da dc h (join_sml hsx hsy wx wy sa sc da dc) wx wy h1 h2)
  obtain ⟨i0, hi, iz0, iz1, iz2⟩ := info_parts params_infoJ
  obtain ⟨j0, hj, jz0, jz1, jz2⟩ := info_parts duct_infoJ
  clear hx hy hsx hsy wx wy hxl hyl
  obtain ⟨⟨c0, c1⟩, -⟩ := HB.out _ (Fr.refl _ _)
  unfold W0J at HLX HLY K0 HB HOX HOY
  generalize x.g.orderL = lx at *
  generalize y.g.orderL = ly at *
  go_enter Try.func14, Try.ntmps14
  go_upto_region 7 with (first
    | (go_at_call 41; refine (HLY.out _ HF1.out).mono ?_; rintro e w2 ⟨rfl, hf2⟩
       have HF2 := Lib.hid (HF1.out.trans hf2)
       clear c0 c1
       obtain ⟨⟨c0, c1⟩, -⟩ := HB.out _ HF2.out
       clear hf2 HLX HLY)
    | (go_at_call 41; refine HLX.out.mono ?_; rintro e w1 ⟨rfl, hf1⟩
       have HF1 := Lib.hid hf1
       clear c0 c1
       obtain ⟨-, c0, c1⟩ := HB.out _ hf1
       clear hf1)
    | (go_at_call 47; refine (HOY.out _ HF3.out).mono ?_; rintro e w4 ⟨lb, lbc, rfl, hatb, hf4⟩
       have HF4 := Lib.hid (HF3.out.trans hf4); have HA4 := Lib.hid (at_keep HA3.out hf4); have HB4 := Lib.hid hatb
       clear c0 c1 hf4 hatb HOY)
    | (go_at_call 47; refine (HOX.out _ HF2.out).mono ?_; rintro e w3 ⟨la, lac, rfl, hata, hf3⟩
       have HF3 := Lib.hid (HF2.out.trans hf3); have HA3 := Lib.hid hata
       clear c0 c1
       obtain ⟨-, c0, c1⟩ := HB.out _ HF3.out
       clear hf3 hata HOX))
  obtain ⟨⟨c0, c1⟩, -⟩ := HB.out _ HF4.out
  go_upto_region 8 with fail
  have HG := Lib.hid (fun (W : World) (h : Fr No w4 W) => show W.cell? ⟨w.heap.size, 0, none⟩ = some (.slice x.sa x.sp.length x.sc) ∧ W.cell? ⟨w.heap.size, 1, none⟩ = some (.slice x.da x.du.length x.dc) ∧ W.cell? ⟨w.heap.size + 1, 0, none⟩ = some (.slice y.sa y.sp.length y.sc) from
    ⟨(HB.out _ (HF4.out.trans h)).1.1, (HB.out _ (HF4.out.trans h)).1.2, (HB.out _ (HF4.out.trans h)).2.1⟩)
  have HXY := Lib.hid (fun (W : World) (h : Fr No w4 W) => show x.Ok W ∧ y.Ok W from ⟨HX.out.fr ((K0.out.trans HF4.out).trans h), HY.out.fr ((K0.out.trans HF4.out).trans h)⟩)
  clear HF1 HF2 HF3 HA3
  go_cut [10] from 45 to 56 (fun v10 wx => ∃ b10 sa sc da dc, v10 = .pointer (some ⟨b10, 0, none⟩) ∧ Hid (BS w4 x y b10 sa sc (.slice da x.du.length dc) x.du wx))
  case first =>
    clear c0 c1
    go_region_held3 (fun W => W.cell? ⟨w.heap.size, 0, none⟩ = some (.slice x.sa x.sp.length x.sc) ∧ W.cell? ⟨w.heap.size, 1, none⟩ = some (.slice x.da x.du.length x.dc) ∧ W.cell? ⟨w.heap.size + 1, 0, none⟩ = some (.slice y.sa y.sp.length y.sc))
      ((refine HG.out _ ?_; (repeat (first | with_reducible exact HF7.out | with_reducible exact HF6.out | with_reducible exact HF5.out | with_reducible exact Fr.refl _ _ | with_reducible refine Fr.alloc ?_ _ | with_reducible refine Fr.drew ?_ | with_reducible refine Fr.setCell ?_ (fun hq => absurd hq (by omega)) _))))
      (first
        | (refine step_append_sl rfl (.tmp 48) (.tmp 50) 60 60 rfl 41 i0 (.agg #[.int .i64 0, .int .i64 0, .slice none 0 0, .slice none 0 0]) 4 64 Try.underlying60 hi iz0 iz1 iz2 rfl (by decide) (.slice va1 x.sp.length vc1) x.sp.length (x.sp.flatMap Sp.cells) rfl ?_ (.slice y.sa y.sp.length y.sc) y.sp.length (y.sp.flatMap Sp.cells) rfl ?_ (by omega) (by omega) ?_
           · exact HO5.out.fr (by (repeat (first | with_reducible exact Fr.refl _ _ | with_reducible refine Fr.alloc ?_ _ | with_reducible refine Fr.drew ?_)); done) (fun _ _ _ z => z)
           · exact src_slice Try.underlying60 (flat_length sp_len y.sp) (HXY.out _ (HF5.out.trans (by (repeat (first | with_reducible exact Fr.refl _ _ | with_reducible refine Fr.alloc ?_ _ | with_reducible refine Fr.drew ?_)); done))).2.st (sp_one y.sp)
           intro v2 w6 hown2 hfr2 hblk2
           rw [← List.flatMap_append] at hown2
           have HF6 := Lib.hid (fr_past (w1 := w4) (HF5.out.trans (by (repeat (first | with_reducible exact Fr.refl _ _ | with_reducible refine Fr.alloc ?_ _ | with_reducible refine Fr.drew ?_)); done)) hfr2 HN5.out)
           have HP6 := Lib.hid (past_of (HO5.out.fr (by (repeat (first | with_reducible exact Fr.refl _ _ | with_reducible refine Fr.alloc ?_ _ | with_reducible refine Fr.drew ?_)); done) (fun _ _ _ z => z)) hfr2)
           obtain ⟨va2, vc2, hv2, -, -⟩ := hown2.at
           subst hv2
           have HO6 := Lib.hid hown2
           have s6 : w4.heap.size ≤ w6.heap.size := HF6.out.size
           clear hown2 hfr2 hblk2)
        | (refine step_append_sl rfl (.tmp 45) (.tmp 47) 60 60 rfl 41 i0 (.agg #[.int .i64 0, .int .i64 0, .slice none 0 0, .slice none 0 0]) 4 64 Try.underlying60 hi iz0 iz1 iz2 rfl (by decide) (.slice (some ⟨_, 0, none⟩) 0 0) 0 [] rfl ?_ (.slice x.sa x.sp.length x.sc) x.sp.length (x.sp.flatMap Sp.cells) rfl ?_ (by omega) (by omega) ?_
           · exact own_nilJ 4 (by (repeat (first | (with_reducible refine up0 _ _ _ _ ?_; simp; done) | with_reducible refine up1 ?_ | with_reducible refine upd ?_)); done)
           · exact src_slice Try.underlying60 (flat_length sp_len x.sp) (HXY.out _ (by (repeat (first | with_reducible exact Fr.refl _ _ | with_reducible refine Fr.alloc ?_ _ | with_reducible refine Fr.drew ?_)); done)).1.st (sp_one x.sp)
           intro v1 w5 hown1 hfr1 hblk1
           rw [Nat.zero_add, List.nil_append] at hown1
           have HF5 := Lib.hid (fr_past (w1 := w4) (by (repeat (first | with_reducible exact Fr.refl _ _ | with_reducible refine Fr.alloc ?_ _ | with_reducible refine Fr.drew ?_)); done) hfr1 (new_at (by omega)))
           have HN5 := Lib.hid (new_past (w1 := w4) (by (repeat (first | with_reducible exact Fr.refl _ _ | with_reducible refine Fr.alloc ?_ _ | with_reducible refine Fr.drew ?_)); done) (new_at (by omega)) hblk1)
           have HP5 := Lib.hid (past_of (e := 41) (own_nilJ 4 (by (repeat (first | (with_reducible refine up0 _ _ _ _ ?_; simp; done) | with_reducible refine up1 ?_ | with_reducible refine upd ?_)); done)) hfr1)
           obtain ⟨va1, vc1, hv1, -, -⟩ := hown1.at
           subst hv1
           have HO5 := Lib.hid hown1
           have s5 : w4.heap.size ≤ w5.heap.size := HF5.out.size
           clear hown1 hfr1 hblk1)
        | (refine step_append_sl rfl (.tmp 52) (.tmp 54) 61 61 rfl 72 j0 (.agg #[.int .i64 0, .int .i64 0, .int .i64 0, .int .i64 0, .int .i64 0]) 5 40 Try.underlying61 hj jz0 jz1 jz2 rfl (by decide) (.slice (some ⟨_, 0, none⟩) 0 0) 0 [] rfl ?_ (.slice x.da x.du.length x.dc) x.du.length (x.du.flatMap Dct.cells) rfl ?_ (by omega) (by omega) ?_
           · exact own_nilJ 5 (by (repeat (first | (with_reducible refine up0 _ _ _ _ ?_; simp; done) | with_reducible refine up1 ?_ | with_reducible refine upd ?_ | with_reducible refine HP6.out _ _ _ (by decide) ?_ | with_reducible refine HP5.out _ _ _ (by decide) ?_)); done)
           · exact src_slice Try.underlying61 (flat_length dc_len x.du) (HXY.out _ (HF6.out.trans (by (repeat (first | with_reducible exact Fr.refl _ _ | with_reducible refine Fr.alloc ?_ _ | with_reducible refine Fr.drew ?_)); done))).1.du (dc_oneJ x.du)
           intro v3 w7 hown3 hfr3 hblk3
           rw [Nat.zero_add, List.nil_append] at hown3
           have HF7 := Lib.hid (fr_past (w1 := w4) (HF6.out.trans (by (repeat (first | with_reducible exact Fr.refl _ _ | with_reducible refine Fr.alloc ?_ _ | with_reducible refine Fr.drew ?_)); done)) hfr3 (new_at (by omega)))
           have HN7 := Lib.hid (new_past (w1 := w4) (HF6.out.trans (by (repeat (first | with_reducible exact Fr.refl _ _ | with_reducible refine Fr.alloc ?_ _ | with_reducible refine Fr.drew ?_)); done)) (new_at (by omega)) hblk3)
           have HP7 := Lib.hid (past_of (e := 72) (own_nilJ 5 (by (repeat (first | (with_reducible refine up0 _ _ _ _ ?_; simp; done) | with_reducible refine up1 ?_ | with_reducible refine upd ?_ | with_reducible refine HP6.out _ _ _ (by decide) ?_ | with_reducible refine HP5.out _ _ _ (by decide) ?_)); done)) hfr3)
           have HO67 := Lib.hid (own_keepJ (e2 := 72) hfr3 (by decide) (HO6.out.fr (by (repeat (first | with_reducible exact Fr.refl _ _ | with_reducible refine Fr.alloc ?_ _ | with_reducible refine Fr.drew ?_)); done) (fun _ _ _ z => z)) (own_nilJ 5 (by (repeat (first | (with_reducible refine up0 _ _ _ _ ?_; simp; done) | with_reducible refine up1 ?_ | with_reducible refine upd ?_ | with_reducible refine HP6.out _ _ _ (by decide) ?_ | with_reducible refine HP5.out _ _ _ (by decide) ?_)); done)))
           obtain ⟨va3, vc3, hv3, -, -⟩ := hown3.at
           subst hv3
           have HO7 := Lib.hid hown3
           clear hown3 hfr3 hblk3
           first
             | (refine withJ (w7.heap[w4.heap.size]? = some (.cells #[.slice none 0 0, .slice none 0 0] 63 (0, 0))) ?_ ?_
                · (repeat (first | (with_reducible refine up0 _ _ _ _ ?_; simp; done) | with_reducible refine up1 ?_ | with_reducible refine upd ?_ | with_reducible refine HP7.out _ _ _ (by decide) ?_ | with_reducible refine HP6.out _ _ _ (by decide) ?_ | with_reducible refine HP5.out _ _ _ (by decide) ?_)); done
                intro hz
                have HZ := Lib.hid hz
                have q0 := cell_block hz 0; have q1 := cell_block hz 1; have q2 := frozen_block hz 0; have q3 := frozen_block hz 1
                clear hz)
             | (refine withJ (w7.heap[w4.heap.size + 1]? = some (.cells #[.slice none 0 0, .slice none 0 0] 63 (0, 0))) ?_ ?_
                · (repeat (first | (with_reducible refine up0 _ _ _ _ ?_; simp; done) | with_reducible refine up1 ?_ | with_reducible refine upd ?_ | with_reducible refine HP7.out _ _ _ (by decide) ?_ | with_reducible refine HP6.out _ _ _ (by decide) ?_ | with_reducible refine HP5.out _ _ _ (by decide) ?_)); done
                intro hz
                have HZ := Lib.hid hz
                have q0 := cell_block hz 0; have q1 := cell_block hz 1; have q2 := frozen_block hz 0; have q3 := frozen_block hz 1
                clear hz)
             | (refine withJ (w7.heap[w4.heap.size + 1 + 1]? = some (.cells #[.slice none 0 0, .slice none 0 0] 63 (0, 0))) ?_ ?_
                · (repeat (first | (with_reducible refine up0 _ _ _ _ ?_; simp; done) | with_reducible refine up1 ?_ | with_reducible refine upd ?_ | with_reducible refine HP7.out _ _ _ (by decide) ?_ | with_reducible refine HP6.out _ _ _ (by decide) ?_ | with_reducible refine HP5.out _ _ _ (by decide) ?_)); done
                intro hz
                have HZ := Lib.hid hz
                have q0 := cell_block hz 0; have q1 := cell_block hz 1; have q2 := frozen_block hz 0; have q3 := frozen_block hz 1
                clear hz)
             | (refine withJ (w7.heap[w5.heap.size]? = some (.cells #[.slice none 0 0, .slice none 0 0] 63 (0, 0))) ?_ ?_
                · (repeat (first | (with_reducible refine up0 _ _ _ _ ?_; simp; done) | with_reducible refine up1 ?_ | with_reducible refine upd ?_ | with_reducible refine HP7.out _ _ _ (by decide) ?_ | with_reducible refine HP6.out _ _ _ (by decide) ?_ | with_reducible refine HP5.out _ _ _ (by decide) ?_)); done
                intro hz
                have HZ := Lib.hid hz
                have q0 := cell_block hz 0; have q1 := cell_block hz 1; have q2 := frozen_block hz 0; have q3 := frozen_block hz 1
                clear hz)
             | (refine withJ (w7.heap[w5.heap.size + 1]? = some (.cells #[.slice none 0 0, .slice none 0 0] 63 (0, 0))) ?_ ?_
                · (repeat (first | (with_reducible refine up0 _ _ _ _ ?_; simp; done) | with_reducible refine up1 ?_ | with_reducible refine upd ?_ | with_reducible refine HP7.out _ _ _ (by decide) ?_ | with_reducible refine HP6.out _ _ _ (by decide) ?_ | with_reducible refine HP5.out _ _ _ (by decide) ?_)); done
                intro hz
                have HZ := Lib.hid hz
                have q0 := cell_block hz 0; have q1 := cell_block hz 1; have q2 := frozen_block hz 0; have q3 := frozen_block hz 1
                clear hz)
             | (refine withJ (w7.heap[w6.heap.size]? = some (.cells #[.slice none 0 0, .slice none 0 0] 63 (0, 0))) ?_ ?_
                · (repeat (first | (with_reducible refine up0 _ _ _ _ ?_; simp; done) | with_reducible refine up1 ?_ | with_reducible refine upd ?_ | with_reducible refine HP7.out _ _ _ (by decide) ?_ | with_reducible refine HP6.out _ _ _ (by decide) ?_ | with_reducible refine HP5.out _ _ _ (by decide) ?_)); done
                intro hz
                have HZ := Lib.hid hz
                have q0 := cell_block hz 0; have q1 := cell_block hz 1; have q2 := frozen_block hz 0; have q3 := frozen_block hz 1
                clear hz)
             | (refine withJ (w7.heap[w6.heap.size + 1]? = some (.cells #[.slice none 0 0, .slice none 0 0] 63 (0, 0))) ?_ ?_
                · (repeat (first | (with_reducible refine up0 _ _ _ _ ?_; simp; done) | with_reducible refine up1 ?_ | with_reducible refine upd ?_ | with_reducible refine HP7.out _ _ _ (by decide) ?_ | with_reducible refine HP6.out _ _ _ (by decide) ?_ | with_reducible refine HP5.out _ _ _ (by decide) ?_)); done
                intro hz
                have HZ := Lib.hid hz
                have q0 := cell_block hz 0; have q1 := cell_block hz 1; have q2 := frozen_block hz 0; have q3 := frozen_block hz 1
                clear hz)
             | skip))
    all_goals (go_wp2_with fail; go_meet)
    all_goals (first
      | with_reducible exact ⟨_, va2, vc2, va3, vc3, rfl, Lib.hid (bs_new HO67.out HO7.out HF7.out HN7.out)⟩
      | with_reducible exact ⟨_, va2, vc2, va3, vc3, rfl, Lib.hid (bs_set HO67.out HO7.out HF7.out HN7.out HZ.out (by omega))⟩)
  case rest =>
    obtain ⟨b10, sa, sc, da0, dc0, rfl, HBS0⟩ := hcut
    have HLO := Lib.hid HBS0.out.lo
    clear HG c0 c1
    go_wp2_with fail
    go_loopw [11] (fun i wr => ∃ k : Nat, k ≤ y.du.length ∧ i = .int .i64 k ∧ Hid (∃ da dc, BS w4 x y b10 sa sc (.slice da (x.du.length + k) dc) (x.du ++ (y.du.take k).map (shiftD x.sp.length)) wr)) (fun i _ => y.du.length - (intOf i).toNat)
    case atStart => exact ⟨0, Nat.zero_le _, rfl, Lib.hid ⟨da0, dc0, by simpa using HBS0.out⟩⟩
    case round =>
      obtain ⟨k, hk, rfl, HK⟩ := hrel
      clear HBS0
      obtain ⟨da, dc, hbs⟩ := HK.out
      have HBS := Lib.hid hbs
      clear hbs HK
      have d1 := (HB.out _ (HF4.out.trans HBS.out.fr)).2.2
      by_cases hlt : k < y.du.length
      · have hki : (k : Int) < y.du.length := by omega
        obtain ⟨gd, od, hda, hdr⟩ := (HXY.out _ HBS.out.fr).2.du.flat dc_len (by decide) (by omega)
        obtain ⟨e0, e1, e2, e3, e4⟩ := dc_cells hdr hlt
        obtain ⟨⟨f1, f2⟩, t1, t2⟩ := HWY.out.toLaid.ends _ (List.getElem_mem (l := y.du) hlt)
        rw [y.st_len] at f2 t2
        have HTK := Lib.hid (show (y.du.take (k + 1)).map (shiftD x.sp.length) = (y.du.take k).map (shiftD x.sp.length) ++ [shiftD x.sp.length y.du[k]] from by rw [List.take_succ_eq_append_getElem hlt, List.map_append]; rfl)
        have hDl : (x.du ++ (y.du.take k).map (shiftD x.sp.length)).length = x.du.length + k := by simp; omega
        have HDL := Lib.hid hDl
        rw [hda] at d1
        clear hda hdr hDl
        generalize y.du[k] = d at *
        obtain ⟨frm, dout, dto, dinn, dcap⟩ := d
        dsimp only at *
        have g1 : frm ≤ 16 := by omega
        have g2 : dto ≤ 16 := by omega
        have z1 : wr.cell? ⟨b10, 1, none⟩ = some (.slice da (x.du.length + k) dc) := cell_block HBS.out.box 1
        have b1 := fun o => cell_alloc z1 o
        clear z1
        have HB2 := Lib.hid (HBS.out.keep (((Fr.refl No wr).alloc (.cells #[.int .i64 (frm + x.sp.length), .int .i64 dout, .int .i64 (dto + x.sp.length), .int .i64 dinn, .int .i64 dcap] 72)).alloc (.cells #[.int .i64 (frm + x.sp.length), .int .i64 dout, .int .i64 (dto + x.sp.length), .int .i64 dinn, .int .i64 dcap] 72)))
        have how := HB2.out.du
        rw [HDL.out] at how
        have HOW := Lib.hid how
        have hsr : Src Try.prog ((wr.alloc (.cells #[.int .i64 (frm + x.sp.length), .int .i64 dout, .int .i64 (dto + x.sp.length), .int .i64 dinn, .int .i64 dcap] 72)).alloc (.cells #[.int .i64 (frm + x.sp.length), .int .i64 dout, .int .i64 (dto + x.sp.length), .int .i64 dinn, .int .i64 dcap] 72)) 5 61 (.slice (some ⟨wr.heap.size + 1, 0, none⟩) 1 1) 1 (Dct.cells ⟨frm + x.sp.length, dout, dto + x.sp.length, dinn, dcap⟩) :=
          src_slice Try.underlying61 rfl (fun _ => ⟨wr.heap.size + 1, 0, rfl, row_at (wr.alloc (.cells #[.int .i64 (frm + x.sp.length), .int .i64 dout, .int .i64 (dto + x.sp.length), .int .i64 dinn, .int .i64 dcap] 72)) #[.int .i64 (frm + x.sp.length), .int .i64 dout, .int .i64 (dto + x.sp.length), .int .i64 dinn, .int .i64 dcap] _ rfl _ (by simp) 72 (0, 0)⟩) (by simp [Dct.cells, Value.oneCell'])
        have HSR := Lib.hid hsr
        clear how hsr
        go_wp2_with (
          at_builtin
          refine wpList_append_sl rfl (.tmp 80) (.tmp 82) 61 61 rfl 72 j0 (.agg #[.int .i64 0, .int .i64 0, .int .i64 0, .int .i64 0, .int .i64 0]) 5 40 Try.underlying61 hj jz0 jz1 jz2 rfl (by decide) (.slice da (x.du.length + k) dc) (x.du.length + k) ((x.du ++ (y.du.take k).map (shiftD x.sp.length)).flatMap Dct.cells) rfl HOW.out (.slice (some ⟨wr.heap.size + 1, 0, none⟩) 1 1) 1 (Dct.cells ⟨frm + x.sp.length, dout, dto + x.sp.length, dinn, dcap⟩) rfl HSR.out (by omega) (by omega) ?_
          intro v5 w5 hown5 hfr5 hblk5
          obtain ⟨hb5, hbx5⟩ := HB2.out.put ⟨frm + x.sp.length, dout, dto + x.sp.length, dinn, dcap⟩ (by rw [HDL.out]; exact hown5) hfr5 hblk5
          have HB5 := Lib.hid hb5
          obtain ⟨va5, vc5, hv5, -, -⟩ := hown5.at
          subst hv5
          have cb5 := cell_block hbx5 1
          have cf5 := frozen_block hbx5 1
          clear hown5 hfr5 hblk5 hb5 hbx5)
        go_roundw
        case rel => exact ⟨k + 1, by omega, by go_num, Lib.hid ⟨va5, vc5, by rw [HTK.out, ← List.append_assoc]; exact HB5.out⟩⟩
        case measure => simp [intOf]; omega
      · obtain rfl : k = y.du.length := by omega
        have hbs : BS w4 x y b10 sa sc (.slice da (x.du.length + y.du.length) dc) (x.du ++ y.du.map (shiftD x.sp.length)) wr := by have := HBS.out; rwa [List.take_length] at this
        have HOK := Lib.hid (hbs.done (HXY.out _ (Fr.refl _ _)).1 (HXY.out _ (Fr.refl _ _)).2 HWY.out hn1)
        have HJB := Lib.hid (fun (W : World) (h : Fr No wr W) => show W.cell? ⟨b10, 0, none⟩ = some (.slice sa (x.sp.length + y.sp.length) sc) ∧ W.cell? ⟨b10, 1, none⟩ = some (.slice da (x.du.length + y.du.length) dc) from ⟨cell_block (hbs.keep h).box 0, cell_block (hbs.keep h).box 1⟩)
        have HFW := Lib.hid hbs.fr
        have HFR := Lib.hid (HF4.out.trans hbs.fr)
        obtain ⟨k0, k1⟩ := HJB.out _ (Fr.refl _ _)
        clear hbs HBS hlt hk
        by_cases m1 : 16 < x.sp.length + y.sp.length
        · have m1i : (16 : Int) < (x.sp.length : Int) + y.sp.length := by omega
          have HOJ := Lib.hid (HJM.out wr sa sc da dc HOK.out (by omega))
          go_wp2_with (first
            | (go_at_call 47; refine HOJ.out.mono ?_; rintro e w6 ⟨a6, c6, rfl, hf6⟩
               have HF6 := Lib.hid hf6
               clear k0 k1
               obtain ⟨k0, k1⟩ := HJB.out _ hf6
               clear hf6)
            | (go_at_call 42; refine (awake20 _).mono ?_; rintro e w7 ⟨rfl, hf7⟩))
          go_ret
          exact ⟨rfl, ((K0.out.trans HFR.out).trans HF6.out).trans hf7⟩
        · have m1i : ¬ (16 : Int) < (x.sp.length : Int) + y.sp.length := by omega
          by_cases m2 : 64 < x.du.length + y.du.length
          · have m2i : (64 : Int) < (x.du.length : Int) + y.du.length := by omega
            have HOJ := Lib.hid (HJM.out wr sa sc da dc HOK.out (by omega))
            go_wp2_with (first
              | (go_at_call 47; refine HOJ.out.mono ?_; rintro e w6 ⟨a6, c6, rfl, hf6⟩
                 have HF6 := Lib.hid hf6
                 clear k0 k1
                 obtain ⟨k0, k1⟩ := HJB.out _ hf6
                 clear hf6)
              | (go_at_call 42; refine (awake20 _).mono ?_; rintro e w7 ⟨rfl, hf7⟩))
            go_ret
            exact ⟨rfl, ((K0.out.trans HFR.out).trans HF6.out).trans hf7⟩
          · have m2i : ¬ (64 : Int) < (x.du.length : Int) + y.du.length := by omega
            have HOJ := Lib.hid (HJO.out wr sa sc da dc HOK.out (by omega) (by omega))
            have HA5 := Lib.hid (at_keep HA4.out HFW.out); have HB5 := Lib.hid (at_keep HB4.out HFW.out)
            have la16 : (lx.length : Int) ≤ 16 := by have := HXL.out; omega
            have lb16 : (ly.length : Int) ≤ 16 := by have := HYL.out; omega
            have hni : (x.sp.length : Int) ≤ 16 := by omega
            go_wp2_with (first
              | (go_at_call 47; refine HOJ.out.mono ?_; rintro e w6 ⟨a6, c6, rfl, hat6, hf6⟩
                 have HF6 := Lib.hid hf6
                 have HC6 := Lib.hid hat6
                 have HA6 := Lib.hid (at_keep HA5.out hf6); have HB6 := Lib.hid (at_keep HB5.out hf6)
                 clear k0 k1
                 obtain ⟨k0, k1⟩ := HJB.out _ hf6
                 clear hf6 hat6))
            clear k0 k1 m1i m2i
            go_loopw [15, 16, 17] (fun xv yv iw wy => ∃ k p q : Nat, k ≤ lx.length + ly.length ∧ Hid ((k = p ∧ q = 0 ∧ p ≤ lx.length) ∨ (p = lx.length ∧ k = lx.length + q)) ∧ xv = .int .i64 p ∧ yv = .int .i64 q ∧ iw = .int .i64 k ∧ Hid (Fr No w6 wy)) (fun _ _ i _ => lx.length + ly.length - (intOf i).toNat)
            case atStart => exact ⟨0, 0, 0, Nat.zero_le _, Lib.hid (.inl ⟨rfl, rfl, Nat.zero_le _⟩), rfl, rfl, rfl, Lib.hid (Fr.refl _ _)⟩
            case round =>
              obtain ⟨k, p, q, hk, HPQ, rfl, rfl, rfl, HFy⟩ := hrel
              by_cases hlt : k < lx.length + ly.length
              · have hki : (k : Int) < (lx.length : Int) + ly.length := by omega
                obtain ⟨gc, oc, rfl, hrc⟩ := (at_keep HC6.out HFy.out) (by simp; omega)
                by_cases hA : k < lx.length
                · obtain ⟨rfl, rfl⟩ : p = k ∧ q = 0 := by have := HPQ.out; omega
                  obtain ⟨ga, oa, rfl, hra⟩ := (at_keep HA6.out HFy.out) (by simp; omega)
                  have e1 := row_left hrc hA
                  have e2 : wr.cell? ⟨ga, oa + p, none⟩ = some (.int .i64 lx[p]) := hra.get p (iv lx[p]) (by simp [hA])
                  obtain ⟨v1, v2⟩ := HLA.out p hA
                  rw [x.st_len] at v2
                  generalize lx[p] = v at *
                  have hpi : (p : Int) < lx.length := by omega
                  have hdm : decide ((lx.length : Int) ≤ p) = false := by simp; omega
                  have hdm2 : decide (lx.length ≤ p) = false := by simp; omega
                  clear hrc hra
                  go_wp2_with fail
                  go_quiet (fail)
                  go_wp2
                  go_roundw
                  case rel => exact ⟨p + 1, p + 1, 0, by omega, Lib.hid (.inl ⟨rfl, rfl, by omega⟩), by go_num, rfl, by go_num, Lib.hid (HFy.out.drewN nq)⟩
                  case measure => simp [intOf]; omega
                · obtain ⟨rfl, rfl⟩ : p = lx.length ∧ k = lx.length + q := by have := HPQ.out; omega
                  have hq : q < ly.length := by omega
                  obtain ⟨gb, ob, rfl, hrb⟩ := (at_keep HB6.out HFy.out) (by simp; omega)
                  have e1 := row_right hrc hq
                  have e2 : wr.cell? ⟨gb, ob + q, none⟩ = some (.int .i64 ly[q]) := hrb.get q (iv ly[q]) (by simp [hq])
                  obtain ⟨v1, v2⟩ := HLB.out q hq
                  rw [y.st_len] at v2
                  generalize ly[q] = v at *
                  have hv16 : v ≤ 16 := by omega
                  have hvn : ¬ v + (x.sp.length : Int) < x.sp.length := by omega
                  have hqi : (q : Int) < ly.length := by omega
                  have hdm : decide ((ly.length : Int) ≤ q) = false := by simp; omega
                  have hdm2 : decide (ly.length ≤ q) = false := by simp; omega
                  clear hrc hrb
                  go_wp2_with fail
                  go_quiet (fail)
                  go_wp2
                  go_roundw
                  case rel => exact ⟨lx.length + q + 1, lx.length, q + 1, by omega, Lib.hid (.inr ⟨rfl, by omega⟩), rfl, by go_num, by go_num, Lib.hid (HFy.out.drewN nq)⟩
                  case measure => simp [intOf]; omega
              · go_wp2_with (go_at_call 42; refine (awake20 _).mono ?_; rintro e w7 ⟨rfl, hf7⟩)
                go_ret
                exact ⟨rfl, ((K0.out.trans HFR.out).trans (HF6.out.trans HFy.out)).trans hf7⟩
theorem walk_graphBeside (w : World) {v v' : Value} (x : Gv) (h : IsGr w v x) (y : Gv) (h' : IsGr w v' y) : Calls Try.prog 14 #[v, v'] w (RndPost w true) := by
  obtain ⟨rfl, hx⟩ := h
  obtain ⟨rfl, hy⟩ := h'
  by_cases h1 : Sml x
  · by_cases h2 : Sml y
    · by_cases c1 : x.g.check.2 = 0
      · by_cases c2 : y.g.check.2 = 0
        · exact beside_main w x y hx hy h1 h2 ((check_ok x.g).1 c1) ((check_ok y.g).1 c2)
        · exact beside_bad2 w x y hx hy h1 h2 c1 c2
      · exact beside_bad1 w x y hx hy h1 h2 c1
    · exact beside_long2 w x y hx hy h1 h2
  · exact beside_long1 w x y hx h1
end Go.Proofs.Ytljldkknopmfhaa
