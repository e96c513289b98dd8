/- GraphOrders, walked. -/
import Derived.Test.YtljldkknopmfhaaGrX
import Derived.Test.YtljldkknopmfhaaGrK
namespace Go.Proofs.Ytljldkknopmfhaa
open Go.RowKit

set_option maxHeartbeats 4000000 in
set_option maxRecDepth 100000 in
theorem core_graphOrders (w : World) (x : Gv) (hx : x.Ok w) : Calls Try.prog 11 #[.agg #[.slice x.sa x.sp.length x.sc, .slice x.da x.du.length x.dc]] w (RndPost w true) := by
  have HB := Lib.hid (fun (W : World) (h : Fr No (w.alloc (.cells #[.slice x.sa x.sp.length x.sc, .slice x.da x.du.length x.dc] 63)) W) => gbox w x h)
  have HXB := Lib.hid (fun (W : World) (h : Fr No (w.alloc (.cells #[.slice x.sa x.sp.length x.sc, .slice x.da x.du.length x.dc] 63)) W) => hx.fr (((Fr.refl No w).alloc _).trans h))
  have HLO := Lib.hid (long_any (w.alloc (.cells #[.slice x.sa x.sp.length x.sc, .slice x.da x.du.length x.dc] 63)) x (HXB.out _ (Fr.refl _ _)))
  have K0 := Lib.hid ((Fr.refl No w).alloc (.cells #[.slice x.sa x.sp.length x.sc, .slice x.da x.du.length x.dc] 63))
  by_cases hsm : Sml x
  · rw [longB_no hsm] at HLO
    have HOR := Lib.hid (fun (W : World) (h : Fr No (w.alloc (.cells #[.slice x.sa x.sp.length x.sc, .slice x.da x.du.length x.dc] 63)) W) => order_graph W x (HXB.out W h) hsm)
    have HRO := Lib.hid (fun (W : World) (h : Fr No (w.alloc (.cells #[.slice x.sa x.sp.length x.sc, .slice x.da x.du.length x.dc] 63)) W) => order_ref W x (HXB.out W h) hsm)
    have hlen : x.g.orderL.length ≤ 100000 := by
      unfold Gr.orderL
      split
      · rename_i h
        have hw := (check_ok x.g).1 h
        rw [List.length_map, (order_ok hw).len]; have := hw.ns; omega
      · simp
    have HSM := Lib.hid (fun (W : World) (a b : Option Addr) (c d : Nat) (ha : At W a (x.g.orderL.map iv)) (hb : At W b (x.g.orderL.map iv)) => lints_same a b c d x.g.orderL _ _ rfl rfl W ha hb hlen)
    unfold OrderPost at HOR HRO
    clear hx hsm hlen
    generalize x.g.orderL = L at *
    generalize x.g.check = ck at *
    go_enter Try.func11, Try.ntmps11
    go_wp2_with (first
      | (go_at_call 41; refine HLO.out.mono ?_; rintro e w1 ⟨rfl, hf1⟩
         have HF1 := Lib.hid hf1
         obtain ⟨c0, c1⟩ := HB.out _ hf1
         clear hf1)
      | (go_at_call 47; refine (HOR.out _ HF1.out).mono ?_; rintro e w2 ⟨a2, b2, rfl, hat2, hf2⟩
         have HF2 := Lib.hid (HF1.out.trans hf2); have HA2 := Lib.hid hat2
         clear c0 c1 hat2
         obtain ⟨c0, c1⟩ := HB.out _ HF2.out
         clear hf2)
      | (go_at_call 48; refine (HRO.out _ HF2.out).mono ?_; rintro e w3 ⟨a3, b3, rfl, hat3, hf3⟩
         have HF3 := Lib.hid (HF2.out.trans hf3); have HA23 := Lib.hid (at_keep HA2.out hf3); have HA3 := Lib.hid hat3
         clear hf3 c0 c1 hat3)
      | (go_at_call 49; refine (HSM.out _ _ _ _ _ HA23.out HA3.out).mono ?_; rintro e w4 ⟨rfl, hf4⟩
         have HF4 := Lib.hid (HF3.out.trans hf4); clear hf4)
      | (go_at_call 42; refine (awake20 _).mono ?_; rintro e w5 ⟨rfl, hf5⟩))
    go_ret
    exact ⟨rfl, (K0.out.trans HF4.out).trans hf5⟩
  · rw [longB_yes hsm] at HLO
    clear hx hsm
    go_enter Try.func11, Try.ntmps11
    go_wp2_with (first
      | (go_at_call 41; refine HLO.out.mono ?_; rintro e w1 ⟨rfl, hf1⟩)
      | (go_at_call 42; refine (awake20 _).mono ?_; rintro e w3 ⟨rfl, hf3⟩))
    go_ret
    exact ⟨rfl, (K0.out.trans hf1).trans hf3⟩
theorem walk_graphOrders (w : World) {v : Value} (x : Gv) (h : IsGr w v x) : Calls Try.prog 11 #[v] w (RndPost w true) := by
  obtain ⟨rfl, hx⟩ := h
  exact core_graphOrders w x hx
end Go.Proofs.Ytljldkknopmfhaa
