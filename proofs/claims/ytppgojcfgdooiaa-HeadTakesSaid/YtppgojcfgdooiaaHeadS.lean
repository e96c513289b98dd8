/- What is found of head, in the document's words. Plain. -/
import Derived.Test.YtppgojcfgdooiaaHeadAB
import Derived.Test.YtppgojcfgdooiaaLinE
import Derived.Test.YtppgojcfgdooiaaRef
import Derived.Test.YtppgojcfgdooiaaStrm
import Derived.Test.YtppgojcfgdooiaaLiftS
namespace Go.Proofs.Ytppgojcfgdooiaa
open Go.RowKit

theorem eachs_headI : ∀ (ls : List (List UInt8)) (n : Nat), 1 ≤ n → n ≤ 1000000000 → eachs headI (n : Int) ls = ((((eachs headF n ls).1 : Nat) : Int), (eachs headF n ls).2.1, (eachs headF n ls).2.2)
  | [], n, _, _ => rfl
  | l :: ls, n, h1, h2 => by
    have hw : wrap64 ((n : Int) - 1) = ((n - 1 : Nat) : Int) := by unfold wrap64; omega
    have e : headI (n : Int) l = (((n - 1 : Nat) : Int), [l ++ [10]], decide (n - 1 = 0)) := by
      unfold headI
      rw [hw]
      have : decide (((n - 1 : Nat) : Int) = 0) = decide (n - 1 = 0) := by
        by_cases h : n - 1 = 0
        · simp [h]
        · rw [decide_eq_false h, decide_eq_false (by omega)]
      rw [this]
    rw [eachs, e]
    by_cases h : n - 1 = 0
    · have : (headF n l).2.2 = true := by simp [headF, h]
      rw [if_pos (by simp [h])]
      rw [eachs, if_pos this]
      simp [headF, h]
    · have hf : ¬ (headF n l).2.2 = true := by simp [headF, h]
      rw [if_neg (by simp [h])]
      dsimp only
      rw [eachs_headI ls (n - 1) (by omega) (by omega)]
      conv => rhs; rw [eachs, if_neg hf]
      rfl
theorem says_headI (n : Nat) (b : List UInt8) (ended : Bool) (h1 : 1 ≤ n) (h2 : n ≤ 1000000000) : (bmL headI).says ([], (n : Int)) b ended = (bmL headF).says ([], n) b ended := by
  unfold BM.says
  rw [run_lines, run_lines, eachs_headI _ n h1 h2]
  dsimp only
  generalize eachs headF n (cutM b [] []).1 = r
  obtain ⟨t, o, ov⟩ := r
  dsimp only
  cases ov
  · cases (cutM b [] []).2.2
    · simp only [Bool.false_eq_true, if_false]
      cases ended
      · rfl
      · simp only [if_true]
        unfold bmL
        dsimp only
        by_cases hr : (cutM b [] []).2.1 = []
        · rw [if_pos hr, if_pos hr]
        · rw [if_neg hr, if_neg hr]; rfl
    · rfl
  · rfl
def headR (n : Int) (b : List UInt8) (ended : Bool) : List UInt8 × Int × Int :=
  (joinM ((rlines b ended).take n.toNat), if n.toNat ≤ (rlines b ended).length ∨ (rlong b = false ∧ ended = true) then (-1, 0) else if rlong b = true then (-1, 20) else (0, 0))
theorem found_head (n : Int) (b : List UInt8) (ended : Bool) (h1 : 0 ≤ n) (h2 : n ≤ 1000000000) : foundL headI (decide (n = 0)) n b ended = headR n b ended := by
  unfold foundL headR
  by_cases h : n = 0
  · subst h; simp [joinM]
  · obtain ⟨m, rfl⟩ : ∃ m : Nat, n = m := ⟨n.toNat, by omega⟩
    rw [if_neg (by simpa using h), says_headI m b ended (by omega) (by omega), head_says b ended m (by omega)]
    rfl
end Go.Proofs.Ytppgojcfgdooiaa

/- Head: the document's Means. -/
namespace Go.Proofs.Ytppgojcfgdooiaa
open Go.RowKit

theorem rlines_weight (b : List UInt8) (ended : Bool) : (joinM (rlines b ended)).length ≤ b.length + 1 := by
  have h := cutM_weight b [] []
  simp only [show joinM [] = [] from rfl, List.length_nil, Nat.zero_add] at h
  unfold rlines
  split
  · omega
  · split
    · have : joinM ((cutM b [] []).1 ++ [(cutM b [] []).2.1]) = joinM (cutM b [] []).1 ++ ((cutM b [] []).2.1 ++ [10]) := by simp [joinM]
      rw [this]; simp only [List.length_append, List.length_cons, List.length_nil]; omega
    · omega
theorem joinM_len : ∀ l : List (List UInt8), l.length ≤ (joinM l).length
  | [] => by simp [joinM]
  | x :: l => by
    have := joinM_len l
    have e : joinM (x :: l) = x ++ [10] ++ joinM l := by simp [joinM]
    rw [e]; simp; omega
/-- What the document says of head. -/
def meansAll (n : Int) (b : List UInt8) (ended : Bool) : Bool := rdAll b ended || decide (n ≤ (rlines b ended).length)
set_option maxHeartbeats 4000000 in
set_option maxRecDepth 100000 in
theorem means_any (k n : Int) (aA aB : Option Addr) (lA lB cA cB : Nat) (ig ioff ci : Nat) (s : Strm) (w : World) (hn : 0 ≤ n) (hn2 : n ≤ 1000000000)
    (hrow : Row w ig ioff (strmC s.a s.b s.c s.ended s.ec s.es s.ei)) (hs : At w s.a (s.b.map bv)) (hl : s.b.length ≤ 100000) (hc : s.b.length ≤ s.c) :
    Calls Try.prog 19 #[.agg #[.int .i64 k, .int .i64 n, .slice aA lA cA, .slice aB lB cB], .slice (some ⟨ig, ioff, none⟩) 1 ci] w
      (OnePost w (joinM ((rlines s.b s.ended).take n.toNat)) (meansAll n s.b s.ended) (if meansAll n s.b s.ended then (0, 0, 0) else rdErr s.b s.ended (s.ec, s.es, s.ei))) := by
  have hig := hrow.lt (by simp [strmC])
  have hbox := (Fr.refl No w).alloc (.cells #[.int .i64 k, .int .i64 n, .slice aA lA cA, .slice aB lB cB] 24)
  have hrow1 := hrow.fr hbox (fun _ _ x => x)
  have i0 := hrow1.get 0 _ rfl
  have i1 := hrow1.get 1 _ rfl
  have i2 := hrow1.get 2 _ rfl
  have i3 := hrow1.get 3 _ rfl
  have i4 := hrow1.get 4 _ rfl
  rw [Nat.add_zero] at i0
  have hlines := rdlines_any s.a s.c s.b s.ended s.ec s.es s.ei _ (at_no hs hbox) (by omega) hc
  have HLN := Lib.hid hlines; clear hlines
  have hw := rlines_weight s.b s.ended
  have hjl := joinM_len (rlines s.b s.ended)
  unfold meansAll
  generalize rlines s.b s.ended = ls at *
  generalize rdAll s.b s.ended = all at *
  generalize rdErr s.b s.ended (s.ec, s.es, s.ei) = er at *
  obtain ⟨e1, e2, e3⟩ := er
  clear hrow hrow1
  have HP := fun (A2 : Bool) (h : (all || decide (n ≤ (ls.length : Int))) = A2) => show OnePost w (joinM (ls.take n.toNat)) (all || decide (n ≤ (ls.length : Int))) (if (all || decide (n ≤ (ls.length : Int))) = true then (0, 0, 0) else (e1, e2, e3)) = OnePost w (joinM (ls.take n.toNat)) A2 (if A2 = true then (0, 0, 0) else (e1, e2, e3)) from by rw [h]
  cases all with
  | true =>
    rw [HP true rfl]
    clear HP
    generalize hE2 : (if (true : Bool) = true then ((0, 0, 0) : Int × Int × Int) else (e1, e2, e3)) = E2
    have HE2 := Lib.hid hE2; clear hE2
    go_enter Try.func19, Try.ntmps19
    go_wp2_with (first
      | (go_at_call 35; refine HLN.out.mono ?_; rintro en w1 ⟨a1, c1, rfl, hat1, hf1⟩
         dsimp only [rdC]
         obtain ⟨b1, z1⟩ := box_at hf1
         have b11 := b1 1
         have HAT := Lib.hid hat1; have HF := Lib.hid (hbox.trans hf1); clear hat1 b1))
    go_loop [6, 7] (fun s i => ∃ q : Nat, q ≤ ls.length ∧ (q : Int) ≤ n ∧ i = .int .i64 q ∧ s = sv (joinM (ls.take q))) (fun _ i => ls.length - (intOf i).toNat)
    case atStart => exact ⟨0, Nat.zero_le _, hn, rfl, by simp [joinM]⟩
    case round =>
      obtain ⟨q, hq, hqn, rfl, rfl⟩ := hrel
      have hb11 : ((w1.alloc (.cells #[.slice a1 ls.length c1, .bool true, .int .i64 e1, .int .i64 e2, .int .i64 e3] 97))).cell? ⟨w.heap.size, 1, none⟩ = some (.int .i64 n) := (((Fr.refl No w1).alloc _).cell _ 1 z1 (fun x => x)).trans b11
      by_cases hlt : q < ls.length
      · by_cases hqn2 : (q : Int) < n
        · have hqi : (q : Int) < ls.length := by omega
          obtain ⟨ga, oa, rfl, hr1⟩ := HAT.out (by simp; omega)
          have hcell := (hr1.fr ((Fr.refl No w1).alloc (.cells #[.slice (some ⟨ga, oa, none⟩) ls.length c1, .bool true, .int .i64 e1, .int .i64 e2, .int .i64 e3] 97)) (fun _ _ x => x)).get q (sv ls[q]) (by simp [hlt])
          have hjt := joinM_take ls q hlt
          have hjle := joinM_le ls (q + 1)
          rw [hjt] at hjle
          simp only [List.length_append, List.length_cons, List.length_nil] at hjle
          generalize ls[q] = x at *
          have hs1 := str_app (joinM (ls.take q)) x
          have hs2 := str_app (joinM (ls.take q) ++ x) [10]
          have HJ := Lib.hid hjt; clear hjt
          generalize joinM (ls.take q) = jq at *
          have hb1 : (jq.length : Int) + x.length ≤ 9223372036854775807 := by omega
          have hb2 : (jq.length : Int) + x.length + 1 ≤ 9223372036854775807 := by omega
          go_wp2
          go_round
          case rel => exact ⟨q + 1, by omega, by omega, by go_num, by rw [HJ.out, List.append_assoc]⟩
          case measure => simp [intOf]; omega
        · have hE : joinM (ls.take q) = joinM (ls.take n.toNat) := by rw [show n.toNat = q from by omega]
          have HEQ := Lib.hid hE; clear hE
          have hqi : (q : Int) < ls.length := by omega
          go_wp2_with (first
            | (go_at_call 36; refine (out_any (joinM (ls.take q)) true e1 e2 e3 _).mono ?_; rintro en w3 ⟨g3, c3, sa, sc, rfl, hr3, ha3, hf3⟩))
          go_ret
          rw [← HEQ.out, ← HE2.out]
          exact ⟨g3, c3, sa, sc, rfl, hr3, ha3, (HF.out.alloc _).trans hf3⟩
      · have hE : joinM (ls.take q) = joinM (ls.take n.toNat) := by rw [List.take_of_length_le (by omega), List.take_of_length_le (by omega)]
        have HEQ := Lib.hid hE; clear hE
        have hqi : ¬ (q : Int) < ls.length := by omega
        go_wp2_with (first
          | (go_at_call 36; refine (out_any (joinM (ls.take q)) true e1 e2 e3 _).mono ?_; rintro en w3 ⟨g3, c3, sa, sc, rfl, hr3, ha3, hf3⟩))
        go_ret
        rw [← HEQ.out, ← HE2.out]
        exact ⟨g3, c3, sa, sc, rfl, hr3, ha3, (HF.out.alloc _).trans hf3⟩

  | false =>
    by_cases hnl : n ≤ ls.length
    · rw [HP true (by simp [hnl])]
      clear HP
      generalize hE2 : (if (true : Bool) = true then ((0, 0, 0) : Int × Int × Int) else (e1, e2, e3)) = E2
      have HE2 := Lib.hid hE2; clear hE2
      go_enter Try.func19, Try.ntmps19
      go_wp2_with (first
        | (go_at_call 35; refine HLN.out.mono ?_; rintro en w1 ⟨a1, c1, rfl, hat1, hf1⟩
           dsimp only [rdC]
           obtain ⟨b1, z1⟩ := box_at hf1
           have b11 := b1 1
           have HAT := Lib.hid hat1; have HF := Lib.hid (hbox.trans hf1); clear hat1 b1))
      go_loop [6, 7] (fun s i => ∃ q : Nat, q ≤ ls.length ∧ (q : Int) ≤ n ∧ i = .int .i64 q ∧ s = sv (joinM (ls.take q))) (fun _ i => ls.length - (intOf i).toNat)
      case atStart => exact ⟨0, Nat.zero_le _, hn, rfl, by simp [joinM]⟩
      case round =>
        obtain ⟨q, hq, hqn, rfl, rfl⟩ := hrel
        have hb11 : ((w1.alloc (.cells #[.slice a1 ls.length c1, .bool false, .int .i64 e1, .int .i64 e2, .int .i64 e3] 97))).cell? ⟨w.heap.size, 1, none⟩ = some (.int .i64 n) := (((Fr.refl No w1).alloc _).cell _ 1 z1 (fun x => x)).trans b11
        by_cases hlt : q < ls.length
        · by_cases hqn2 : (q : Int) < n
          · have hqi : (q : Int) < ls.length := by omega
            obtain ⟨ga, oa, rfl, hr1⟩ := HAT.out (by simp; omega)
            have hcell := (hr1.fr ((Fr.refl No w1).alloc (.cells #[.slice (some ⟨ga, oa, none⟩) ls.length c1, .bool false, .int .i64 e1, .int .i64 e2, .int .i64 e3] 97)) (fun _ _ x => x)).get q (sv ls[q]) (by simp [hlt])
            have hjt := joinM_take ls q hlt
            have hjle := joinM_le ls (q + 1)
            rw [hjt] at hjle
            simp only [List.length_append, List.length_cons, List.length_nil] at hjle
            generalize ls[q] = x at *
            have hs1 := str_app (joinM (ls.take q)) x
            have hs2 := str_app (joinM (ls.take q) ++ x) [10]
            have HJ := Lib.hid hjt; clear hjt
            generalize joinM (ls.take q) = jq at *
            have hb1 : (jq.length : Int) + x.length ≤ 9223372036854775807 := by omega
            have hb2 : (jq.length : Int) + x.length + 1 ≤ 9223372036854775807 := by omega
            go_wp2
            go_round
            case rel => exact ⟨q + 1, by omega, by omega, by go_num, by rw [HJ.out, List.append_assoc]⟩
            case measure => simp [intOf]; omega
          · have hE : joinM (ls.take q) = joinM (ls.take n.toNat) := by rw [show n.toNat = q from by omega]
            have HEQ := Lib.hid hE; clear hE
            have hqi : (q : Int) < ls.length := by omega
            go_wp2_with (first
              | (go_at_call 36; refine (out_any (joinM (ls.take q)) true e1 e2 e3 _).mono ?_; rintro en w3 ⟨g3, c3, sa, sc, rfl, hr3, ha3, hf3⟩))
            go_ret
            rw [← HEQ.out, ← HE2.out]
            exact ⟨g3, c3, sa, sc, rfl, hr3, ha3, (HF.out.alloc _).trans hf3⟩
        · have hE : joinM (ls.take q) = joinM (ls.take n.toNat) := by rw [List.take_of_length_le (by omega), List.take_of_length_le (by omega)]
          have HEQ := Lib.hid hE; clear hE
          have hqi : ¬ (q : Int) < ls.length := by omega
          go_wp2_with (first
            | (go_at_call 36; refine (out_any (joinM (ls.take q)) true e1 e2 e3 _).mono ?_; rintro en w3 ⟨g3, c3, sa, sc, rfl, hr3, ha3, hf3⟩))
          go_ret
          rw [← HEQ.out, ← HE2.out]
          exact ⟨g3, c3, sa, sc, rfl, hr3, ha3, (HF.out.alloc _).trans hf3⟩

    · rw [HP false (by simp [hnl])]
      clear HP
      have hnd : decide (n ≤ (ls.length : Int)) = false := by simpa using hnl
      generalize hE2 : (if (false : Bool) = true then ((0, 0, 0) : Int × Int × Int) else (e1, e2, e3)) = E2
      have HE2 := Lib.hid hE2; clear hE2
      go_enter Try.func19, Try.ntmps19
      go_wp2_with (first
        | (go_at_call 35; refine HLN.out.mono ?_; rintro en w1 ⟨a1, c1, rfl, hat1, hf1⟩
           dsimp only [rdC]
           obtain ⟨b1, z1⟩ := box_at hf1
           have b11 := b1 1
           have HAT := Lib.hid hat1; have HF := Lib.hid (hbox.trans hf1); clear hat1 b1))
      go_loop [6, 7] (fun s i => ∃ q : Nat, q ≤ ls.length ∧ (q : Int) ≤ n ∧ i = .int .i64 q ∧ s = sv (joinM (ls.take q))) (fun _ i => ls.length - (intOf i).toNat)
      case atStart => exact ⟨0, Nat.zero_le _, hn, rfl, by simp [joinM]⟩
      case round =>
        obtain ⟨q, hq, hqn, rfl, rfl⟩ := hrel
        have hb11 : ((w1.alloc (.cells #[.slice a1 ls.length c1, .bool false, .int .i64 e1, .int .i64 e2, .int .i64 e3] 97))).cell? ⟨w.heap.size, 1, none⟩ = some (.int .i64 n) := (((Fr.refl No w1).alloc _).cell _ 1 z1 (fun x => x)).trans b11
        by_cases hlt : q < ls.length
        · by_cases hqn2 : (q : Int) < n
          · have hqi : (q : Int) < ls.length := by omega
            obtain ⟨ga, oa, rfl, hr1⟩ := HAT.out (by simp; omega)
            have hcell := (hr1.fr ((Fr.refl No w1).alloc (.cells #[.slice (some ⟨ga, oa, none⟩) ls.length c1, .bool false, .int .i64 e1, .int .i64 e2, .int .i64 e3] 97)) (fun _ _ x => x)).get q (sv ls[q]) (by simp [hlt])
            have hjt := joinM_take ls q hlt
            have hjle := joinM_le ls (q + 1)
            rw [hjt] at hjle
            simp only [List.length_append, List.length_cons, List.length_nil] at hjle
            generalize ls[q] = x at *
            have hs1 := str_app (joinM (ls.take q)) x
            have hs2 := str_app (joinM (ls.take q) ++ x) [10]
            have HJ := Lib.hid hjt; clear hjt
            generalize joinM (ls.take q) = jq at *
            have hb1 : (jq.length : Int) + x.length ≤ 9223372036854775807 := by omega
            have hb2 : (jq.length : Int) + x.length + 1 ≤ 9223372036854775807 := by omega
            go_wp2
            go_round
            case rel => exact ⟨q + 1, by omega, by omega, by go_num, by rw [HJ.out, List.append_assoc]⟩
            case measure => simp [intOf]; omega
          · exfalso; omega
        · have hE : joinM (ls.take q) = joinM (ls.take n.toNat) := by rw [List.take_of_length_le (by omega), List.take_of_length_le (by omega)]
          have HEQ := Lib.hid hE; clear hE
          have hqi : ¬ (q : Int) < ls.length := by omega
          go_wp2_with (first
            | (go_at_call 36; refine (out_any (joinM (ls.take q)) false e1 e2 e3 _).mono ?_; rintro en w3 ⟨g3, c3, sa, sc, rfl, hr3, ha3, hf3⟩))
          go_ret
          rw [← HEQ.out, ← HE2.out]
          exact ⟨g3, c3, sa, sc, rfl, hr3, ha3, (HF.out.alloc _).trans hf3⟩

end Go.Proofs.Ytppgojcfgdooiaa
