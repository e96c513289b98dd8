/- ParamsSame, walked. -/
import Derived.Test.YtljldkknopmfhaaParG
import Derived.Test.YtljldkknopmfhaaLiftP
import Derived.Deep.RegionHeld3
import Derived.BigGuardPart
namespace Go.Proofs.Ytljldkknopmfhaa
open Go.RowKit

theorem sameB_own (k n : Int) (A B : List UInt8) : sameB k n k n A B A B = true := by simp [sameB]
set_option maxHeartbeats 4000000 in
set_option maxRecDepth 100000 in
theorem core_paramsSame (w : World) (k n k' n' : Int) (aA aB aA' aB' : Option Addr) (A B A' B' : List UInt8) (cA cB cA' cB' : Nat) (hA : At w aA (A.map bv)) (hB : At w aB (B.map bv)) (hA' : At w aA' (A'.map bv)) (hB' : At w aB' (B'.map bv)) :
    Calls Try.prog 7 #[.agg #[.int .i64 k, .int .i64 n, .slice aA A.length cA, .slice aB B.length cB], .agg #[.int .i64 k', .int .i64 n', .slice aA' A'.length cA', .slice aB' B'.length cB']] w (TruePost w) := by
  by_cases hlen : A.length ≤ 2000 ∧ B.length ≤ 2000
  · by_cases hlen' : A'.length ≤ 2000 ∧ B'.length ≤ 2000
    · obtain ⟨h1, h2⟩ := hlen
      obtain ⟨h1', h2'⟩ := hlen'
      have hl : A.length ≤ 100000000 := by omega
      have hl2 : B.length ≤ 100000000 := by omega
      have hl' : A'.length ≤ 100000000 := by omega
      have hl2' : B'.length ≤ 100000000 := by omega
      have HP := Lib.hid (fun (W : World) (hW : Fr No w W) => psame_any k n k' n' aA aB aA' aB' A B A' B' cA cB cA' cB' W (at_no hA hW) (at_no hB hW) (at_no hA' hW) (at_no hB' hW) hl hl2 hl' hl2')
      have HR := Lib.hid (fun (W : World) (hW : Fr No w W) => rsame_any k n k' n' aA aB aA' aB' A B A' B' cA cB cA' cB' W (at_no hA hW) (at_no hB hW) (at_no hA' hW) (at_no hB' hW) hl hl2 hl' hl2')
      have HO := Lib.hid (fun (W : World) (hW : Fr No w W) => own_any k n aA aB A B cA cB W (at_no hA hW) (at_no hB hW) hl hl2)
      have HS := Lib.hid (fun (W : World) (hW : Fr No w W) (a b : Option Addr) (c d : Nat) (ha : At W a (A.map bv)) (hb : At W b (B.map bv)) => psame_any k n k n aA aB a b A B A B cA cB c d W (at_no hA hW) (at_no hB hW) ha hb hl hl2 hl hl2)
      rw [show sameB k n k n A B A B = true from sameB_own k n A B] at HS
      clear hA hB hA' hB'
      generalize sameB k n k' n' A B A' B' = sb at *
      have H4 := Lib.hid (fun (W : World) (f : Fr No ((w.alloc (.cells #[.int .i64 k, .int .i64 n, .slice aA A.length cA, .slice aB B.length cB] 41)).alloc (.cells #[.int .i64 k', .int .i64 n', .slice aA' A'.length cA', .slice aB' B'.length cB'] 41)) W) => (show W.cell? ⟨w.heap.size, 0, none⟩ = some (.int .i64 k) ∧ W.cell? ⟨w.heap.size, 1, none⟩ = some (.int .i64 n) ∧ W.cell? ⟨w.heap.size, 2, none⟩ = some (.slice aA A.length cA) ∧ W.cell? ⟨w.heap.size, 3, none⟩ = some (.slice aB B.length cB) ∧ W.cell? ⟨w.heap.size + 1, 0, none⟩ = some (.int .i64 k') ∧ W.cell? ⟨w.heap.size + 1, 1, none⟩ = some (.int .i64 n') ∧ W.cell? ⟨w.heap.size + 1, 2, none⟩ = some (.slice aA' A'.length cA') ∧ W.cell? ⟨w.heap.size + 1, 3, none⟩ = some (.slice aB' B'.length cB') from
        have x1 := (box_at (((Fr.refl No _).alloc _).trans f)).1
        have x2 := (box_at f).1
        ⟨x1 0, x1 1, x1 2, x1 3, by simpa using x2 0, by simpa using x2 1, by simpa using x2 2, by simpa using x2 3⟩))
      go_enter Try.func7, Try.ntmps7
      go_wp2_with (first
        | (go_at_call_of 24 (Value.agg #[.int .i64 k, .int .i64 n, .slice aA A.length cA, .slice aB B.length cB]); (with_reducible refine (long_false k n aA aB A.length B.length cA cB _ h1 h2).mono ?_); rintro e1 w1 ⟨rfl, f1⟩; obtain ⟨x0, x1, x2, x3, y0, y1, y2, y3⟩ := H4.out _ f1)
        | (go_at_call 24; refine (long_false k' n' aA' aB' A'.length B'.length cA' cB' _ h1' h2').mono ?_; rintro e1 w2 ⟨rfl, f2⟩))
      have H5 := Lib.hid (fun (W : World) (f : Fr No w2 W) => H4.out W ((f1.trans f2).trans f))
      have KF := Lib.hid ((((Fr.refl No w).alloc _).alloc _ |>.trans f1).trans f2)
      clear f1 f2 x0 x1 x2 x3 y0 y1 y2 y3
      go_region_held3 (fun W => W.cell? ⟨w.heap.size, 0, none⟩ = some (.int .i64 k) ∧ W.cell? ⟨w.heap.size, 1, none⟩ = some (.int .i64 n) ∧ W.cell? ⟨w.heap.size, 2, none⟩ = some (.slice aA A.length cA) ∧ W.cell? ⟨w.heap.size, 3, none⟩ = some (.slice aB B.length cB) ∧ W.cell? ⟨w.heap.size + 1, 0, none⟩ = some (.int .i64 k') ∧ W.cell? ⟨w.heap.size + 1, 1, none⟩ = some (.int .i64 n') ∧ W.cell? ⟨w.heap.size + 1, 2, none⟩ = some (.slice aA' A'.length cA') ∧ W.cell? ⟨w.heap.size + 1, 3, none⟩ = some (.slice aB' B'.length cB')) (first | exact H5.out _ (Fr.refl _ _).drew | exact H5.out _ ((Fr.refl _ _).drew.trans g1) | exact H5.out _ ((Fr.refl _ _).drew.trans g2) | exact H5.out _ (((Fr.refl _ _).drew.trans g1).trans g2) | exact H5.out _ (((Fr.refl _ _).drew.trans g2).trans g1) | exact H5.out _ ((((Fr.refl _ _).drew.trans g1).trans g2).trans g3) | exact H5.out _ ((((Fr.refl _ _).drew.trans g2).trans g1).trans g3) | exact H5.out _ (((((Fr.refl _ _).drew.trans g1).trans g2).trans g3).trans g4) | exact H5.out _ (((((Fr.refl _ _).drew.trans g2).trans g1).trans g3).trans g4) | exact H5.out _ ((((((Fr.refl _ _).drew.trans g1).trans g2).trans g3).trans g4).trans g5) | exact H5.out _ ((((((Fr.refl _ _).drew.trans g2).trans g1).trans g3).trans g4).trans g5))
        (first
          | (go_at_call 29; first | (refine (HR.out _ (KF.out.trans (Fr.refl _ _).drew)).mono ?_; rintro e4 w4 ⟨rfl, g2⟩) | (refine (HR.out _ (KF.out.trans ((Fr.refl _ _).drew.trans g1))).mono ?_; rintro e4 w4 ⟨rfl, g2⟩))
          | (go_at_call 26; first | (refine (HO.out _ (KF.out.trans (((Fr.refl _ _).drew.trans g1).trans g2))).mono ?_; rintro e5 w5 ⟨a2, c2, b2, d2, rfl, ha2, hb2, g3, _, _⟩) | (refine (HO.out _ (KF.out.trans (((Fr.refl _ _).drew.trans g2).trans g1))).mono ?_; rintro e5 w5 ⟨a2, c2, b2, d2, rfl, ha2, hb2, g3, _, _⟩))
          | (go_at_call_of 34 (Value.agg #[.int .i64 k', .int .i64 n', .slice aA' A'.length cA', .slice aB' B'.length cB']); fail)
          | (go_at_call 34; first | ((with_reducible refine (HS.out _ (KF.out.trans ((((Fr.refl _ _).drew.trans g1).trans g2).trans g3)) a2 b2 c2 d2 ha2 hb2).mono ?_); rintro e6 w6 ⟨rfl, g4⟩) | ((with_reducible refine (HS.out _ (KF.out.trans ((((Fr.refl _ _).drew.trans g2).trans g1).trans g3)) a2 b2 c2 d2 ha2 hb2).mono ?_); rintro e6 w6 ⟨rfl, g4⟩) | (refine (HP.out _ (KF.out.trans (Fr.refl _ _).drew)).mono ?_; rintro e3 w3 ⟨rfl, g1⟩) | (refine (HP.out _ (KF.out.trans ((Fr.refl _ _).drew.trans g2))).mono ?_; rintro e3 w3 ⟨rfl, g1⟩))
          | (go_at_call 25; refine (awake_any _).mono ?_; rintro e7 w7 ⟨rfl, g5⟩))
      all_goals
        go_wp2
        go_ret
        exact ⟨rfl, by first | exact KF.out.trans ((((((Fr.refl _ _).drew.trans g1).trans g2).trans g3).trans g4).trans g5) | exact KF.out.trans ((((((Fr.refl _ _).drew.trans g2).trans g1).trans g3).trans g4).trans g5)⟩
    · go_enter Try.func7, Try.ntmps7
      have H4 := Lib.hid (fun (W : World) (f : Fr No ((w.alloc (.cells #[.int .i64 k, .int .i64 n, .slice aA A.length cA, .slice aB B.length cB] 41)).alloc (.cells #[.int .i64 k', .int .i64 n', .slice aA' A'.length cA', .slice aB' B'.length cB'] 41)) W) => (show W.cell? ⟨w.heap.size, 0, none⟩ = some (.int .i64 k) ∧ W.cell? ⟨w.heap.size, 1, none⟩ = some (.int .i64 n) ∧ W.cell? ⟨w.heap.size, 2, none⟩ = some (.slice aA A.length cA) ∧ W.cell? ⟨w.heap.size, 3, none⟩ = some (.slice aB B.length cB) ∧ W.cell? ⟨w.heap.size + 1, 0, none⟩ = some (.int .i64 k') ∧ W.cell? ⟨w.heap.size + 1, 1, none⟩ = some (.int .i64 n') ∧ W.cell? ⟨w.heap.size + 1, 2, none⟩ = some (.slice aA' A'.length cA') ∧ W.cell? ⟨w.heap.size + 1, 3, none⟩ = some (.slice aB' B'.length cB') from
        have x1 := (box_at (((Fr.refl No _).alloc _).trans f)).1
        have x2 := (box_at f).1
        ⟨x1 0, x1 1, x1 2, x1 3, by simpa using x2 0, by simpa using x2 1, by simpa using x2 2, by simpa using x2 3⟩))
      go_wp2_with (first
        | (go_at_call_of 24 (Value.agg #[.int .i64 k, .int .i64 n, .slice aA A.length cA, .slice aB B.length cB]); (with_reducible refine (long_false k n aA aB A.length B.length cA cB _ hlen.1 hlen.2).mono ?_); rintro e1 w1 ⟨rfl, f1⟩; obtain ⟨x0, x1, x2, x3, y0, y1, y2, y3⟩ := H4.out _ f1)
        | (go_at_call 24; refine (long_true k' n' aA' aB' A'.length B'.length cA' cB' _ hlen').mono ?_; rintro e1 w2 ⟨rfl, f2⟩)
        | (go_at_call 25; refine (awake_any _).mono ?_; rintro e7 w7 ⟨rfl, g5⟩))
      go_ret
      exact ⟨rfl, ((((Fr.refl No w).alloc _).alloc _ |>.trans f1).trans f2).trans g5⟩
  · go_enter Try.func7, Try.ntmps7
    go_wp2_with (first
      | (go_at_call_of 24 (Value.agg #[.int .i64 k, .int .i64 n, .slice aA A.length cA, .slice aB B.length cB]); (with_reducible refine (long_true k n aA aB A.length B.length cA cB _ hlen).mono ?_); rintro e1 w1 ⟨rfl, f1⟩)
      | (go_at_call 25; refine (awake_any _).mono ?_; rintro e7 w7 ⟨rfl, g5⟩))
    go_ret
    exact ⟨rfl, ((((Fr.refl No w).alloc _).alloc _).trans f1).trans g5⟩
theorem walk_paramsSame (w : World) {v v' : Value} (k n : Int) (A B : List UInt8) (h : IsPar w v k n A B) (k' n' : Int) (A' B' : List UInt8) (h' : IsPar w v' k' n' A' B') : Calls Try.prog 7 #[v, v'] w (TruePost w) := by
  obtain ⟨aA, cA, aB, cB, rfl, _, hn, hA, hB, _⟩ := h
  obtain ⟨aA', cA', aB', cB', rfl, _, hn', hA', hB', _⟩ := h'
  exact core_paramsSame w k n k' n' aA aB aA' aB' A B A' B' cA cB cA' cB' hA hB hA' hB'
end Go.Proofs.Ytljldkknopmfhaa
