/- Match: the document's Means. -/
import Derived.Test.YtcplbhjpefmliaaMaN
import Derived.Test.YtcplbhjpefmliaaRef
import Derived.Test.YtcplbhjpefmliaaStrm
import Derived.Test.YtcplbhjpefmliaaLiftS
namespace Go.Proofs.Ytcplbhjpefmliaa
open Go.RowKit

theorem rlines_weight (b : List UInt8) (ended : Bool) : (joinM (rlines b ended)).length ≤ b.length + 1 := by
  have h := cutM_weight b [] []
  simp only [show joinM [] = [] from rfl, List.length_nil, Nat.zero_add] at h
  unfold rlines
  split
  · omega
  · split
    · have : joinM ((cutM b [] []).1 ++ [(cutM b [] []).2.1]) = joinM (cutM b [] []).1 ++ ((cutM b [] []).2.1 ++ [10]) := by simp [joinM]
      rw [this]; simp only [List.length_append, List.length_cons, List.length_nil]; omega
    · omega
theorem sv3 (a b : List UInt8) : Value.string ((⟨a.toArray⟩ : ByteArray) ++ ⟨b.toArray⟩ ++ ⟨#[10]⟩) = sv (a ++ (b ++ [10])) := by
  congr 1
  apply ByteArray.ext
  simp [ByteArray.data_append]
set_option maxHeartbeats 4000000 in
set_option maxRecDepth 100000 in
theorem match_means (k n : Int) (aA aB : Option Addr) (A B : List UInt8) (cA cB : Nat) (ig ioff ci : Nat) (s : Strm) (w : World) (hn : n = 0 ∨ n = 1) (hAl : A.length ≤ 100000) (hA : At w aA (A.map bv))
    (hrow : Row w ig ioff (strmC s.a s.b s.c s.ended s.ec s.es s.ei)) (hs : At w s.a (s.b.map bv)) (hl : s.b.length ≤ 100000) (hc : s.b.length ≤ s.c) :
    Calls Try.prog 52 #[.agg #[.int .i64 k, .int .i64 n, .slice aA A.length cA, .slice aB B.length cB], .slice (some ⟨ig, ioff, none⟩) 1 ci] w
      (OnePost w (pickM A (decide (n = 1)) (rlines s.b s.ended)) (rdAll s.b s.ended) (if rdAll s.b s.ended then (0, 0, 0) else rdErr s.b s.ended (s.ec, s.es, s.ei))) := by
  have hig := hrow.lt (by simp [strmC])
  have hbox := (Fr.refl No w).alloc (.cells #[.int .i64 k, .int .i64 n, .slice aA A.length cA, .slice aB B.length cB] 24)
  have hrow1 := hrow.fr hbox (fun _ _ x => x)
  have i0 := hrow1.get 0 _ rfl
  have i1 := hrow1.get 1 _ rfl
  have i2 := hrow1.get 2 _ rfl
  have i3 := hrow1.get 3 _ rfl
  have i4 := hrow1.get 4 _ rfl
  rw [Nat.add_zero] at i0
  have hlines := rdlines_any s.a s.c s.b s.ended s.ec s.es s.ei _ (at_no hs hbox) (by omega) hc
  have HLN := Lib.hid hlines; clear hlines
  have hw := rlines_weight s.b s.ended
  have hjl := joinM_len (rlines s.b s.ended)
  have HCV := Lib.hid (fun (W : World) (hW : Fr No w W) => conv_at (P := Try.prog) (cap := cA) (at_no hA hW) (src := 22) (dst := 9) Try.underlying22 Try.underlying5 Try.underlying9)
  generalize rlines s.b s.ended = ls at *
  generalize rdAll s.b s.ended = all at *
  generalize rdErr s.b s.ended (s.ec, s.es, s.ei) = er at *
  obtain ⟨e1, e2, e3⟩ := er
  obtain ⟨nt, hnt⟩ : ∃ nt, nt = decide (n = 1) := ⟨_, rfl⟩
  rw [← hnt]
  have hn0 : (n == 0) = !nt := by rcases hn with rfl | rfl <;> (subst hnt; rfl)
  clear hrow hrow1 hA hn hnt
  generalize hE2 : (if all = true then ((0, 0, 0) : Int × Int × Int) else (e1, e2, e3)) = E2
  have HE2 := Lib.hid hE2; clear hE2
  go_enter Try.func52, Try.ntmps52
  go_wp2_with (first
    | (go_at_call 63; refine HLN.out.mono ?_; rintro en w1 ⟨a1, c1, rfl, hat1, hf1⟩
       dsimp only [rdC]
       obtain ⟨b1, z1⟩ := box_at hf1
       have b11 := b1 1
       have b12 := b1 2
       have HAT := Lib.hid hat1; have HF := Lib.hid (hbox.trans hf1); clear hat1 b1))
  go_loopw [6, 7] (fun s i wr => ∃ q : Nat, q ≤ ls.length ∧ i = .int .i64 q ∧ s = sv (pickM A nt (ls.take q)) ∧ Hid (Fr No (w1.alloc (.cells #[.slice a1 ls.length c1, .bool all, .int .i64 e1, .int .i64 e2, .int .i64 e3] 105)) wr)) (fun _ i _ => ls.length - (intOf i).toNat)
  case atStart => exact ⟨0, Nat.zero_le _, rfl, by simp [pickM], Lib.hid (Fr.refl _ _)⟩
  case round =>
    obtain ⟨q, hq, rfl, rfl, HFR⟩ := hrel
    have hfr := HFR.out
    obtain ⟨d1, y1⟩ := box_at hfr
    have d10 := d1 0
    have d11 := d1 1
    have d12 := d1 2
    have d13 := d1 3
    have d14 := d1 4
    have zz : w.heap.size < (w1.alloc (.cells #[.slice a1 ls.length c1, .bool all, .int .i64 e1, .int .i64 e2, .int .i64 e3] 105)).heap.size := by simp; omega
    have hb11 : wr.cell? ⟨w.heap.size, 1, none⟩ = some (.int .i64 n) := (hfr.cell _ 1 zz (fun x => x)).trans ((((Fr.refl No w1).alloc _).cell _ 1 z1 (fun x => x)).trans b11)
    have hb12 : wr.cell? ⟨w.heap.size, 2, none⟩ = some (.slice aA A.length cA) := (hfr.cell _ 2 zz (fun x => x)).trans ((((Fr.refl No w1).alloc _).cell _ 2 z1 (fun x => x)).trans b12)
    have HW := Lib.hid ((HF.out.alloc _).trans hfr)
    have hcv := fun (nn : Nat) => HCV.out (wr.drewN nn) (HW.out.drewN nn)
    clear d1 hfr
    by_cases hlt : q < ls.length
    · have hqi : (q : Int) < ls.length := by omega
      obtain ⟨ga, oa, rfl, hr1⟩ := HAT.out (by simp; omega)
      have hcell := (hr1.fr (((Fr.refl No w1).alloc _).trans HFR.out) (fun _ _ x => x)).get q (sv ls[q]) (by simp [hlt])
      have hpn := pick_next A nt ls q hlt
      have hple := pick_le A nt ls (q + 1)
      have hxl := joinM_in ls q hlt
      rw [hpn] at hple
      generalize ls[q] = x at *
      have hin := fun (W : World) => in_any x A W (by omega) (by omega)
      unfold maG at hpn hple
      generalize pickM A nt (ls.take q) = jq at *
      cases hcb : Lib.contains x A with
      | true =>
        rw [hcb] at hpn hple hin
        have HIN := Lib.hid hin; clear hin
        cases nt with
        | true =>
          rw [if_pos rfl] at hpn hple
          have HPN := Lib.hid hpn; clear hpn hple
          go_wp2_with fail
          go_quiet (first | (go_at_call 69; refine Calls.quiet_of_same (HIN.out _)))
          go_wp2
          go_roundw
          case rel => exact ⟨q + 1, by omega, by go_num, by rw [HPN.out]; simp, Lib.hid (HFR.out.drewN nq)⟩
          case measure => simp [intOf]; omega
        | false =>
          rw [if_neg (by decide)] at hpn hple
          have HPN := Lib.hid hpn; clear hpn
          rw [show ([x ++ [10]] : List (List UInt8)).flatten = x ++ [10] from by simp] at hple
          have z1 : ¬ 9223372036854775807 < jq.length + x.length := by simp at hple; omega
          have z2 : ¬ 9223372036854775807 < jq.length + x.length + 1 := by simp at hple; omega
          have HST := Lib.hid (sv3 jq x)
          go_wp2_with fail
          go_quiet (first | (go_at_call 69; refine Calls.quiet_of_same (HIN.out _)))
          go_wp2
          go_roundw
          case rel => exact ⟨q + 1, by omega, by go_num, by rw [HPN.out, HST.out]; simp, Lib.hid (HFR.out.drewN nq)⟩
          case measure => simp [intOf]; omega
      | false =>
        rw [hcb] at hpn hple hin
        have HIN := Lib.hid hin; clear hin
        cases nt with
        | true =>
          rw [if_neg (by decide)] at hpn hple
          have HPN := Lib.hid hpn; clear hpn
          rw [show ([x ++ [10]] : List (List UInt8)).flatten = x ++ [10] from by simp] at hple
          have z1 : ¬ 9223372036854775807 < jq.length + x.length := by simp at hple; omega
          have z2 : ¬ 9223372036854775807 < jq.length + x.length + 1 := by simp at hple; omega
          have HST := Lib.hid (sv3 jq x)
          go_wp2_with fail
          go_quiet (first | (go_at_call 69; refine Calls.quiet_of_same (HIN.out _)))
          go_wp2
          go_roundw
          case rel => exact ⟨q + 1, by omega, by go_num, by rw [HPN.out, HST.out]; simp, Lib.hid (HFR.out.drewN nq)⟩
          case measure => simp [intOf]; omega
        | false =>
          rw [if_pos rfl] at hpn hple
          have HPN := Lib.hid hpn; clear hpn hple
          go_wp2_with fail
          go_quiet (first | (go_at_call 69; refine Calls.quiet_of_same (HIN.out _)))
          go_wp2
          go_roundw
          case rel => exact ⟨q + 1, by omega, by go_num, by rw [HPN.out]; simp, Lib.hid (HFR.out.drewN nq)⟩
          case measure => simp [intOf]; omega
    · obtain rfl : q = ls.length := by omega
      rw [List.take_length]
      generalize pickM A nt ls = J at *
      go_wp2_with (first
        | (go_at_call 64; refine (out_any J all e1 e2 e3 _).mono ?_; rintro en w3 ⟨g3, c3, sa, sc, rfl, hr3, ha3, hf3⟩))
      go_ret
      rw [← HE2.out]
      exact ⟨g3, c3, sa, sc, rfl, hr3, ha3, HW.out.trans hf3⟩
end Go.Proofs.Ytcplbhjpefmliaa
