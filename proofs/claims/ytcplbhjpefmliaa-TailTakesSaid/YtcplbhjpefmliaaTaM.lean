/- Tail: the document's Means. -/
import Derived.Test.YtcplbhjpefmliaaPlain
import Derived.Test.YtcplbhjpefmliaaRef
import Derived.Test.YtcplbhjpefmliaaStrm
import Derived.Test.YtcplbhjpefmliaaLiftS
namespace Go.Proofs.Ytcplbhjpefmliaa
open Go.RowKit

theorem rlines_weight (b : List UInt8) (ended : Bool) : (joinM (rlines b ended)).length ≤ b.length + 1 := by
  have h := cutM_weight b [] []
  simp only [show joinM [] = [] from rfl, List.length_nil, Nat.zero_add] at h
  unfold rlines
  split
  · omega
  · split
    · have : joinM ((cutM b [] []).1 ++ [(cutM b [] []).2.1]) = joinM (cutM b [] []).1 ++ ((cutM b [] []).2.1 ++ [10]) := by simp [joinM]
      rw [this]; simp only [List.length_append, List.length_cons, List.length_nil]; omega
    · omega
theorem joinM_len : ∀ l : List (List UInt8), l.length ≤ (joinM l).length
  | [] => by simp [joinM]
  | x :: l => by
    have := joinM_len l
    have e : joinM (x :: l) = x ++ [10] ++ joinM l := by simp [joinM]
    rw [e]; simp; omega
/-- The lines from the k-th on, of the first q. -/
def fromJ (ls : List (List UInt8)) (k q : Nat) : List UInt8 := joinM ((ls.take q).drop k)
theorem fromJ_in (ls : List (List UInt8)) (k q : Nat) (h : q < ls.length) (hk : k ≤ q) : fromJ ls k (q + 1) = fromJ ls k q ++ (ls[q] ++ [10]) := by
  unfold fromJ
  rw [List.take_succ_eq_append_getElem h, List.drop_append_of_le_length (by simp; omega)]
  simp [joinM]
theorem fromJ_out (ls : List (List UInt8)) (k q : Nat) (hk : q ≤ k) : fromJ ls k q = [] := by
  unfold fromJ
  rw [List.drop_eq_nil_of_le (by simp; omega)]; rfl
theorem joinM_app (l m : List (List UInt8)) : joinM (l ++ m) = joinM l ++ joinM m := by simp [joinM]
theorem fromJ_le (ls : List (List UInt8)) (k q : Nat) : (fromJ ls k q).length ≤ (joinM ls).length := by
  unfold fromJ
  have e1 : joinM ls = joinM (ls.take q) ++ joinM (ls.drop q) := by rw [← joinM_app, List.take_append_drop]
  have e2 : joinM (ls.take q) = joinM ((ls.take q).take k) ++ joinM ((ls.take q).drop k) := by rw [← joinM_app, List.take_append_drop]
  rw [e1, e2]; simp only [List.length_append]; omega
theorem fromJ_all (ls : List (List UInt8)) (n : Nat) : fromJ ls (ls.length - n) ls.length = joinM (lastN n ls) := by
  unfold fromJ lastN; rw [List.take_length]
set_option maxHeartbeats 4000000 in
set_option maxRecDepth 100000 in
theorem tail_means (k n : Int) (aA aB : Option Addr) (lA lB cA cB : Nat) (ig ioff ci : Nat) (s : Strm) (w : World) (hn : 0 ≤ n) (hn2 : n ≤ 1000000000)
    (hrow : Row w ig ioff (strmC s.a s.b s.c s.ended s.ec s.es s.ei)) (hs : At w s.a (s.b.map bv)) (hl : s.b.length ≤ 100000) (hc : s.b.length ≤ s.c) :
    Calls Try.prog 33 #[.agg #[.int .i64 k, .int .i64 n, .slice aA lA cA, .slice aB lB cB], .slice (some ⟨ig, ioff, none⟩) 1 ci] w
      (OnePost w (if rdAll s.b s.ended = true then joinM (lastN n.toNat (rlines s.b s.ended)) else []) (rdAll s.b s.ended) (if rdAll s.b s.ended then (0, 0, 0) else rdErr s.b s.ended (s.ec, s.es, s.ei))) := by
  have hig := hrow.lt (by simp [strmC])
  have hbox := (Fr.refl No w).alloc (.cells #[.int .i64 k, .int .i64 n, .slice aA lA cA, .slice aB lB cB] 24)
  have hrow1 := hrow.fr hbox (fun _ _ x => x)
  have i0 := hrow1.get 0 _ rfl
  have i1 := hrow1.get 1 _ rfl
  have i2 := hrow1.get 2 _ rfl
  have i3 := hrow1.get 3 _ rfl
  have i4 := hrow1.get 4 _ rfl
  rw [Nat.add_zero] at i0
  have hlines := rdlines_any s.a s.c s.b s.ended s.ec s.es s.ei _ (at_no hs hbox) (by omega) hc
  have HLN := Lib.hid hlines; clear hlines
  have hw := rlines_weight s.b s.ended
  have hjl := joinM_len (rlines s.b s.ended)
  generalize rlines s.b s.ended = ls at *
  generalize rdAll s.b s.ended = all at *
  generalize rdErr s.b s.ended (s.ec, s.es, s.ei) = er at *
  obtain ⟨e1, e2, e3⟩ := er
  clear hrow hrow1
  cases all with
  | true =>
    rw [if_pos rfl, ← fromJ_all]
    obtain ⟨kk, hkk⟩ : ∃ x, x = ls.length - n.toNat := ⟨_, rfl⟩
    rw [← hkk]
    generalize hE2 : (if (true : Bool) = true then ((0, 0, 0) : Int × Int × Int) else (e1, e2, e3)) = E2
    have HE2 := Lib.hid hE2; clear hE2
    go_enter Try.func33, Try.ntmps33
    go_wp2_with (first
      | (go_at_call 63; refine HLN.out.mono ?_; rintro en w1 ⟨a1, c1, rfl, hat1, hf1⟩
         dsimp only [rdC]
         obtain ⟨b1, z1⟩ := box_at hf1
         have b11 := b1 1
         have HAT := Lib.hid hat1; have HF := Lib.hid (hbox.trans hf1); clear hat1 b1))
    go_loop [6, 7] (fun s i => ∃ q : Nat, q ≤ ls.length ∧ i = .int .i64 q ∧ s = sv (fromJ ls kk q)) (fun _ i => ls.length - (intOf i).toNat)
    case atStart => exact ⟨0, Nat.zero_le _, rfl, by simp [fromJ, joinM]⟩
    case round =>
      obtain ⟨q, hq, rfl, rfl⟩ := hrel
      have hb11 : ((w1.alloc (.cells #[.slice a1 ls.length c1, .bool true, .int .i64 e1, .int .i64 e2, .int .i64 e3] 105))).cell? ⟨w.heap.size, 1, none⟩ = some (.int .i64 n) := (((Fr.refl No w1).alloc _).cell _ 1 z1 (fun x => x)).trans b11
      by_cases hlt : q < ls.length
      · have hqi : (q : Int) < ls.length := by omega
        have hww : IntKind.i64.wrap ((ls.length : Int) - q) = (ls.length : Int) - q := by rw [IntKind.wrap_i64]; omega
        by_cases hqn2 : kk ≤ q
        · have hcmp : (ls.length : Int) - q ≤ n := by omega
          obtain ⟨ga, oa, rfl, hr1⟩ := HAT.out (by simp; omega)
          have hcell := (hr1.fr ((Fr.refl No w1).alloc (.cells #[.slice (some ⟨ga, oa, none⟩) ls.length c1, .bool true, .int .i64 e1, .int .i64 e2, .int .i64 e3] 105)) (fun _ _ x => x)).get q (sv ls[q]) (by simp [hlt])
          have hjt := fromJ_in ls kk q hlt hqn2
          have hjle := fromJ_le ls kk (q + 1)
          rw [hjt] at hjle
          simp only [List.length_append, List.length_cons, List.length_nil] at hjle
          generalize ls[q] = x at *
          have hs1 := str_app (fromJ ls kk q) x
          have hs2 := str_app (fromJ ls kk q ++ x) [10]
          have HJ := Lib.hid hjt; clear hjt
          generalize fromJ ls kk q = jq at *
          have hb1 : (jq.length : Int) + x.length ≤ 9223372036854775807 := by omega
          have hb2 : (jq.length : Int) + x.length + 1 ≤ 9223372036854775807 := by omega
          clear hqn2
          have HKK := Lib.hid hkk; clear hkk
          go_wp2
          go_round
          case rel => exact ⟨q + 1, by omega, by go_num, by rw [HJ.out]; first | done | rfl⟩
          case measure => simp [intOf]; omega
        · have hcmp : ¬ (ls.length : Int) - q ≤ n := by omega
          have E1 := Lib.hid (fromJ_out ls kk (q + 1) (by omega))
          rw [fromJ_out ls kk q (by omega)]
          clear hqn2
          have HKK := Lib.hid hkk; clear hkk
          go_wp2
          go_round
          case rel => exact ⟨q + 1, by omega, by go_num, by rw [E1.out]⟩
          case measure => simp [intOf]; omega
      · obtain rfl : q = ls.length := by omega
        have HKK := Lib.hid hkk; clear hkk
        generalize fromJ ls kk ls.length = J at *
        go_wp2_with (first
          | (go_at_call 64; refine (out_any J true e1 e2 e3 _).mono ?_; rintro en w3 ⟨g3, c3, sa, sc, rfl, hr3, ha3, hf3⟩))
        go_ret
        rw [← HE2.out]
        exact ⟨g3, c3, sa, sc, rfl, hr3, ha3, (HF.out.alloc _).trans hf3⟩
  | false =>
    rw [if_neg (by simp)]
    generalize hE2 : (if (false : Bool) = true then ((0, 0, 0) : Int × Int × Int) else (e1, e2, e3)) = E2
    have HE2 := Lib.hid hE2; clear hE2
    go_enter Try.func33, Try.ntmps33
    go_wp2_with (first
      | (go_at_call 63; refine HLN.out.mono ?_; rintro en w1 ⟨a1, c1, rfl, hat1, hf1⟩
         dsimp only [rdC]
         obtain ⟨b1, z1⟩ := box_at hf1
         have b11 := b1 1
         have HAT := Lib.hid hat1; have HF := Lib.hid (hbox.trans hf1); clear hat1 b1))
    go_loop [6, 7] (fun s i => i = .int .i64 0 ∧ s = sv []) (fun _ _ => 0)
    case atStart => exact ⟨rfl, rfl⟩
    case round =>
      obtain ⟨rfl, rfl⟩ := hrel
      by_cases h0 : ls = []
      · have hl0 : ls.length = 0 := by rw [h0]; rfl
        rw [hl0]
        go_wp2_with (first
          | (go_at_call 64; refine (out_any [] false e1 e2 e3 _).mono ?_; rintro en w3 ⟨g3, c3, sa, sc, rfl, hr3, ha3, hf3⟩))
        go_ret
        rw [← HE2.out]
        exact ⟨g3, c3, sa, sc, rfl, hr3, ha3, (HF.out.alloc _).trans hf3⟩
      · have hqi : (0 : Int) < ls.length := by have := List.length_pos_iff.2 h0; omega
        go_wp2_with (first
          | (go_at_call 64; refine (out_any [] false e1 e2 e3 _).mono ?_; rintro en w3 ⟨g3, c3, sa, sc, rfl, hr3, ha3, hf3⟩))
        go_ret
        rw [← HE2.out]
        exact ⟨g3, c3, sa, sc, rfl, hr3, ha3, (HF.out.alloc _).trans hf3⟩
end Go.Proofs.Ytcplbhjpefmliaa
