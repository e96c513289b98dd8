/- GraphCheck, walked. -/
import Derived.Test.YtljldkknopmfhaaGrX
import Derived.Test.YtljldkknopmfhaaGrH
import Derived.Test.YtljldkknopmfhaaGrM
namespace Go.Proofs.Ytljldkknopmfhaa
open Go.RowKit

theorem sml_g {x y : Gv} (h : Sml x) (e : y.g = x.g) : Sml y ∧ y.sp.length = x.sp.length ∧ y.du = x.du := by
  have e1 : y.sp.map Sp.s = x.sp.map Sp.s := congrArg Gr.st e
  have e2 : y.du = x.du := congrArg Gr.du e
  have e3 : y.sp.length = x.sp.length := by have := congrArg List.length e1; simpa using this
  refine ⟨⟨by rw [e3]; exact h.s, by rw [e2]; exact h.d, fun p hp => ?_⟩, e3, e2⟩
  have : p.s ∈ x.sp.map Sp.s := by rw [← e1]; exact List.mem_map.2 ⟨p, hp, rfl⟩
  obtain ⟨q, hq, hs⟩ := List.mem_map.1 this
  rw [← hs]
  exact h.b q hq
set_option maxHeartbeats 4000000 in
set_option maxRecDepth 100000 in
theorem core_graphCheck (w : World) (x : Gv) (hx : x.Ok w) : Calls Try.prog 10 #[.agg #[.slice x.sa x.sp.length x.sc, .slice x.da x.du.length x.dc]] w (RndPost w true) := by
  have HB := Lib.hid (fun (W : World) (h : Fr No (w.alloc (.cells #[.slice x.sa x.sp.length x.sc, .slice x.da x.du.length x.dc] 63)) W) => gbox w x h)
  have HXB := Lib.hid (fun (W : World) (h : Fr No (w.alloc (.cells #[.slice x.sa x.sp.length x.sc, .slice x.da x.du.length x.dc] 63)) W) => hx.fr (((Fr.refl No w).alloc _).trans h))
  have HLO := Lib.hid (long_any (w.alloc (.cells #[.slice x.sa x.sp.length x.sc, .slice x.da x.du.length x.dc] 63)) x (HXB.out _ (Fr.refl _ _)))
  have K0 := Lib.hid ((Fr.refl No w).alloc (.cells #[.slice x.sa x.sp.length x.sc, .slice x.da x.du.length x.dc] 63))
  by_cases hsm : Sml x
  · rw [longB_no hsm] at HLO
    have HCK := Lib.hid (fun (W : World) (h : Fr No (w.alloc (.cells #[.slice x.sa x.sp.length x.sc, .slice x.da x.du.length x.dc] 63)) W) => check_graph W x (HXB.out W h) hsm)
    have HOW := Lib.hid (fun (W : World) (h : Fr No (w.alloc (.cells #[.slice x.sa x.sp.length x.sc, .slice x.da x.du.length x.dc] 63)) W) => rown_graph W x (HXB.out W h) hsm)
    have HRC := Lib.hid (fun (W : World) (y : Gv) (hy : y.Ok W) (e : y.g = x.g) => show Calls Try.prog 45 #[.agg #[.slice y.sa y.sp.length y.sc, .slice y.da y.du.length y.dc]] W (fun e' w' => e' = .returned (.tuple #[.int .i64 x.g.check.1, .int .i64 x.g.check.2]) ∧ Fr No W w') from by
      have := check_ref W y hy (sml_g hsm e).1
      unfold RChk at this
      rw [e] at this
      exact this)
    have HSA := Lib.hid (fun (W : World) (h : Fr No (w.alloc (.cells #[.slice x.sa x.sp.length x.sc, .slice x.da x.du.length x.dc] 63)) W) (y : Gv) (hy : y.Ok W) (e : y.g = x.g) => rsame_graph W x y (HXB.out W h) hy e.symm hsm)
    unfold CheckPost at HCK
    clear hx hsm
    generalize hck : x.g.check = ck at *
    clear hck
    go_enter Try.func10, Try.ntmps10
    go_wp2_with (first
      | (go_at_call 41; refine HLO.out.mono ?_; rintro e w1 ⟨rfl, hf1⟩
         have HF1 := Lib.hid hf1
         obtain ⟨c0, c1⟩ := HB.out _ hf1
         clear hf1)
      | (go_at_call 43; refine (HOW.out _ HF1.out).mono ?_; rintro e w2 ⟨y, rfl, hyg, hy2, hf2⟩
         have HYG := Lib.hid hyg; have HY2 := Lib.hid hy2
         have HF2 := Lib.hid (HF1.out.trans hf2)
         clear c0 c1 hyg hy2 hf2
         obtain ⟨c0, c1⟩ := HB.out _ (HF2.out.alloc (.cells #[.slice y.sa y.sp.length y.sc, .slice y.da y.du.length y.dc] 63))
         have HBY := Lib.hid (fun (W : World) (h : Fr No (w2.alloc (.cells #[.slice y.sa y.sp.length y.sc, .slice y.da y.du.length y.dc] 63)) W) => gbox w2 y h))
      | (go_at_call 44; refine (HCK.out _ (HF2.out.alloc _)).mono ?_; rintro e w3 ⟨rfl, hf3⟩
         have HF3 := Lib.hid ((HF2.out.alloc _).trans hf3)
         have HY3 := Lib.hid ((HY2.out.fr ((Fr.refl No w2).alloc _)).fr hf3); have HB3 := Lib.hid hf3
         clear c0 c1
         obtain ⟨e0, e1⟩ := HBY.out _ hf3
         clear hf3)
      | (go_at_call 45; refine (HRC.out _ y HY3.out HYG.out).mono ?_; rintro e w4 ⟨rfl, hf4⟩
         have HF4 := Lib.hid (HF3.out.trans hf4)
         have HY4 := Lib.hid (HY3.out.fr hf4)
         clear e0 e1
         obtain ⟨e0, e1⟩ := HBY.out _ (HB3.out.trans hf4)
         obtain ⟨c0, c1⟩ := HB.out _ HF4.out
         clear hf4)
      | (go_at_call 46; refine (HSA.out _ HF4.out y HY4.out HYG.out).mono ?_; rintro e w5 ⟨rfl, hf5⟩
         have HF5 := Lib.hid (HF4.out.trans hf5); clear hf5)
      | (go_at_call 42; refine (awake20 _).mono ?_; rintro e w6 ⟨rfl, hf6⟩))
    go_ret
    exact ⟨rfl, (K0.out.trans HF5.out).trans hf6⟩
  · rw [longB_yes hsm] at HLO
    clear hx hsm
    go_enter Try.func10, Try.ntmps10
    go_wp2_with (first
      | (go_at_call 41; refine HLO.out.mono ?_; rintro e w1 ⟨rfl, hf1⟩)
      | (go_at_call 42; refine (awake20 _).mono ?_; rintro e w3 ⟨rfl, hf3⟩))
    go_ret
    exact ⟨rfl, (K0.out.trans hf1).trans hf3⟩
theorem walk_graphCheck (w : World) {v : Value} (x : Gv) (h : IsGr w v x) : Calls Try.prog 10 #[v] w (RndPost w true) := by
  obtain ⟨rfl, hx⟩ := h
  exact core_graphCheck w x hx
end Go.Proofs.Ytljldkknopmfhaa
