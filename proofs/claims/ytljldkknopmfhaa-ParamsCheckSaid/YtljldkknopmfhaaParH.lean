/- ParamsCheck, walked. -/
import Derived.Test.YtljldkknopmfhaaParG
import Derived.Deep.RegionHeld3
import Derived.Test.YtljldkknopmfhaaLiftP
namespace Go.Proofs.Ytljldkknopmfhaa
open Go.RowKit

theorem check_r (k n : Int) (aA aB : Option Addr) (A B : List UInt8) (cA cB : Nat) (w : World) (hn : n ≤ 9223372036854775807) (hA : At w aA (A.map bv)) (hl : A.length ≤ 100000000) (hl2 : B.length ≤ 100000000) :
    Calls Try.prog 27 #[.agg #[.int .i64 k, .int .i64 n, .slice aA A.length cA, .slice aB B.length cB]] w (IPost w (chkR k n A B)) := by
  have h := check_any k n aA aB A B cA cB w hA hl hl2
  rwa [(agree k n A B hn).1] at h
theorem sameB_self (k n : Int) (A B : List UInt8) : sameB k n k n A B A B = true := by simp [sameB]
set_option maxHeartbeats 2000000 in
set_option maxRecDepth 100000 in
theorem core_paramsCheck (w : World) (k n : Int) (aA aB : Option Addr) (A B : List UInt8) (cA cB : Nat) (hn : n ≤ 9223372036854775807) (hA : At w aA (A.map bv)) (hB : At w aB (B.map bv)) :
    Calls Try.prog 4 #[.agg #[.int .i64 k, .int .i64 n, .slice aA A.length cA, .slice aB B.length cB]] w (TruePost w) := by
  by_cases hlen : A.length ≤ 2000 ∧ B.length ≤ 2000
  · obtain ⟨h1, h2⟩ := hlen
    have hl : A.length ≤ 100000000 := by omega
    have hl2 : B.length ≤ 100000000 := by omega
    have HC := Lib.hid (fun (W : World) (hW : Fr No w W) => check_r k n aA aB A B cA cB W hn (at_no hA hW) hl hl2)
    have HR := Lib.hid (fun (W : World) (a b : Option Addr) (c d : Nat) (ha : At W a (A.map bv)) => rcheck_any k n a b A B c d W ha hl hl2)
    have HS := Lib.hid (fun (W : World) (hW : Fr No w W) (a b : Option Addr) (c d : Nat) (ha : At W a (A.map bv)) (hb : At W b (B.map bv)) => rsame_any k n k n aA aB a b A B A B cA cB c d W (at_no hA hW) (at_no hB hW) ha hb hl hl2 hl hl2)
    have HO := Lib.hid (fun (W : World) (hW : Fr No w W) => own_any k n aA aB A B cA cB W (at_no hA hW) (at_no hB hW) hl hl2)
    clear hA hB
    rw [show sameB k n k n A B A B = true from sameB_self k n A B] at HS
    generalize chkR k n A B = c at *
    go_enter Try.func4, Try.ntmps4
    go_wp2_with (first
      | (go_at_call 24; refine (long_false k n aA aB A.length B.length cA cB _ h1 h2).mono ?_; rintro e1 w1 ⟨rfl, hfr1⟩; obtain ⟨b1, z1⟩ := box_at hfr1)
      | (go_at_call 26; refine (HO.out _ (((Fr.refl No w).alloc _).trans hfr1)).mono ?_; rintro e2 w2 ⟨a', c', b', d', rfl, ha', hb', hfr2, hna, hnb⟩; obtain ⟨b2, z2⟩ := box_at (hfr1.trans hfr2)))
    have KF : Fr No w (w2.alloc (.cells #[.int .i64 k, .int .i64 n, .slice a' A.length c', .slice b' B.length d'] 41)) := ((((Fr.refl No w).alloc _).trans hfr1).trans hfr2).alloc _
    have H4 := Lib.hid (fun (W : World) (f : Fr No (w2.alloc (.cells #[.int .i64 k, .int .i64 n, .slice a' A.length c', .slice b' B.length d'] 41)) W) => (show W.cell? ⟨w.heap.size, 0, none⟩ = some (.int .i64 k) ∧ W.cell? ⟨w.heap.size, 1, none⟩ = some (.int .i64 n) ∧ W.cell? ⟨w.heap.size, 2, none⟩ = some (.slice aA A.length cA) ∧ W.cell? ⟨w.heap.size, 3, none⟩ = some (.slice aB B.length cB) ∧ W.cell? ⟨w2.heap.size, 0, none⟩ = some (.int .i64 k) ∧ W.cell? ⟨w2.heap.size, 1, none⟩ = some (.int .i64 n) ∧ W.cell? ⟨w2.heap.size, 2, none⟩ = some (.slice a' A.length c') ∧ W.cell? ⟨w2.heap.size, 3, none⟩ = some (.slice b' B.length d') from
      have x1 := (box_at (((hfr1.trans hfr2).alloc _).trans f)).1
      have x2 := (box_at f).1
      ⟨x1 0, x1 1, x1 2, x1 3, x2 0, x2 1, x2 2, x2 3⟩))
    have HA' := Lib.hid (fun (W : World) (f : Fr No (w2.alloc (.cells #[.int .i64 k, .int .i64 n, .slice a' A.length c', .slice b' B.length d'] 41)) W) => at_no ha' (((Fr.refl No w2).alloc _).trans f))
    have HB' := Lib.hid (fun (W : World) (f : Fr No (w2.alloc (.cells #[.int .i64 k, .int .i64 n, .slice a' A.length c', .slice b' B.length d'] 41)) W) => at_no hb' (((Fr.refl No w2).alloc _).trans f))
    clear ha' hb' hna hnb hfr1 hfr2 b1 b2
    go_region_held3 (fun W => W.cell? ⟨w.heap.size, 0, none⟩ = some (.int .i64 k) ∧ W.cell? ⟨w.heap.size, 1, none⟩ = some (.int .i64 n) ∧ W.cell? ⟨w.heap.size, 2, none⟩ = some (.slice aA A.length cA) ∧ W.cell? ⟨w.heap.size, 3, none⟩ = some (.slice aB B.length cB) ∧ W.cell? ⟨w2.heap.size, 0, none⟩ = some (.int .i64 k) ∧ W.cell? ⟨w2.heap.size, 1, none⟩ = some (.int .i64 n) ∧ W.cell? ⟨w2.heap.size, 2, none⟩ = some (.slice a' A.length c') ∧ W.cell? ⟨w2.heap.size, 3, none⟩ = some (.slice b' B.length d')) (first | exact H4.out _ (Fr.refl _ _).drew | exact H4.out _ ((Fr.refl _ _).drew.trans g1) | exact H4.out _ ((Fr.refl _ _).drew.trans g2) | exact H4.out _ (((Fr.refl _ _).drew.trans g1).trans g2) | exact H4.out _ (((Fr.refl _ _).drew.trans g2).trans g1) | exact H4.out _ ((((Fr.refl _ _).drew.trans g1).trans g2).trans g3) | exact H4.out _ ((((Fr.refl _ _).drew.trans g2).trans g1).trans g3) | exact H4.out _ (((((Fr.refl _ _).drew.trans g1).trans g2).trans g3).trans g4) | exact H4.out _ (((((Fr.refl _ _).drew.trans g2).trans g1).trans g3).trans g4))
      (first
        | (go_at_call 27; first | (refine (HC.out _ (KF.trans (Fr.refl _ _).drew)).mono ?_; rintro e3 w3 ⟨rfl, g1⟩) | (refine (HC.out _ (KF.trans ((Fr.refl _ _).drew.trans g2))).mono ?_; rintro e3 w3 ⟨rfl, g1⟩))
        | (go_at_call 28; first | (refine (HR.out _ a' b' c' d' (HA'.out _ (Fr.refl _ _).drew)).mono ?_; rintro e4 w4 ⟨rfl, g2⟩) | (refine (HR.out _ a' b' c' d' (HA'.out _ ((Fr.refl _ _).drew.trans g1))).mono ?_; rintro e4 w4 ⟨rfl, g2⟩))
        | (go_at_call 29; first | (refine (HS.out _ (KF.trans (((Fr.refl _ _).drew.trans g1).trans g2)) a' b' c' d' (HA'.out _ (((Fr.refl _ _).drew.trans g1).trans g2)) (HB'.out _ (((Fr.refl _ _).drew.trans g1).trans g2))).mono ?_; rintro e5 w5 ⟨rfl, g3⟩) | (refine (HS.out _ (KF.trans (((Fr.refl _ _).drew.trans g2).trans g1)) a' b' c' d' (HA'.out _ (((Fr.refl _ _).drew.trans g2).trans g1)) (HB'.out _ (((Fr.refl _ _).drew.trans g2).trans g1))).mono ?_; rintro e5 w5 ⟨rfl, g3⟩))
        | (go_at_call 25; refine (awake_any _).mono ?_; rintro e6 w6 ⟨rfl, g4⟩))
    all_goals
      go_wp2
      go_ret
      exact ⟨rfl, by first | exact KF.trans (((((Fr.refl _ _).drew.trans g1).trans g2).trans g3).trans g4) | exact KF.trans (((((Fr.refl _ _).drew.trans g2).trans g1).trans g3).trans g4)⟩
  · go_enter Try.func4, Try.ntmps4
    go_wp2_with (first
      | (go_at_call 24; refine (long_true k n aA aB A.length B.length cA cB _ hlen).mono ?_; rintro e1 w1 ⟨rfl, hfr1⟩)
      | (go_at_call 25; refine (awake_any _).mono ?_; rintro e6 w6 ⟨rfl, g4⟩))
    go_ret
    exact ⟨rfl, (((Fr.refl _ _).alloc _).trans hfr1).trans g4⟩
theorem walk_paramsCheck (w : World) {v : Value} (k n : Int) (A B : List UInt8) (h : IsPar w v k n A B) : Calls Try.prog 4 #[v] w (TruePost w) := by
  obtain ⟨aA, cA, aB, cB, rfl, _, hn, hA, hB, _⟩ := h
  exact core_paramsCheck w k n aA aB A B cA cB hn.2 hA hB
end Go.Proofs.Ytljldkknopmfhaa
