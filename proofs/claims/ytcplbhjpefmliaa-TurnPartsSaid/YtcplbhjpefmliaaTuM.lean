/- Turn: the document's Means. -/
import Derived.Test.YtcplbhjpefmliaaTuA
import Derived.Test.YtcplbhjpefmliaaRef
import Derived.Test.YtcplbhjpefmliaaStrm
import Derived.Test.YtcplbhjpefmliaaCopyP
namespace Go.Proofs.Ytcplbhjpefmliaa
open Go.RowKit

theorem idxB_snoc_hit (l : List UInt8) (x : UInt8) (h : x ∉ l) : idxB (l ++ [x]) x = l.length := by
  unfold idxB
  rw [if_pos (by simp), List.idxOf_append, if_neg h]
  simp
theorem idxB_snoc_miss (l : List UInt8) (x y : UInt8) (h : y ≠ x) : idxB (l ++ [y]) x = idxB l x := by
  unfold idxB
  by_cases hx : x ∈ l
  · rw [if_pos (by simp [hx]), if_pos hx, List.idxOf_append, if_pos hx]
  · rw [if_neg (by simp [hx]; exact fun e => h e.symm), if_neg hx]
theorem nodup_take (A : List UInt8) (hA : A.Nodup) (j : Nat) (h : j < A.length) : A[j] ∉ A.take j := fun hm => by
  obtain ⟨i, hi, e⟩ := List.getElem_of_mem hm
  have hi' : i < j := by simp at hi; omega
  rw [List.getElem_take] at e
  have := (List.getElem_inj hA).1 e
  omega
set_option maxHeartbeats 8000000 in
set_option maxRecDepth 100000 in
theorem turn_means (k n : Int) (aA aB : Option Addr) (A B : List UInt8) (cA cB : Nat) (ig ioff ci : Nat) (s : Strm) (w : World) (hND : A.Nodup) (hAl : A.length ≤ 1000) (hBl : B.length ≤ 1000) (hA : At w aA (A.map bv)) (hB : At w aB (B.map bv))
    (hrow : Row w ig ioff (strmC s.a s.b s.c s.ended s.ec s.es s.ei)) (hs : At w s.a (s.b.map bv)) (hl : s.b.length ≤ 100000) :
    Calls Try.prog 45 #[.agg #[.int .i64 k, .int .i64 n, .slice aA A.length cA, .slice aB B.length cB], .slice (some ⟨ig, ioff, none⟩) 1 ci] w
      (OnePost w (s.b.flatMap (becomes A B)) s.ended (if s.ended then (0, 0, 0) else (s.ec, s.es, s.ei))) := by
  obtain ⟨j0, hj, jz0, jz1, jz2⟩ := info_parts Try.info5
  have hig := hrow.lt (by simp [strmC])
  have hbox := (Fr.refl No w).alloc (.cells #[.int .i64 k, .int .i64 n, .slice aA A.length cA, .slice aB B.length cB] 24)
  have hrow1 := hrow.fr hbox (fun _ _ x => x)
  have i0 := hrow1.get 0 _ rfl
  have i1 := hrow1.get 1 _ rfl
  have i2 := hrow1.get 2 _ rfl
  have i3 := hrow1.get 3 _ rfl
  have i4 := hrow1.get 4 _ rfl
  rw [Nat.add_zero] at i0
  generalize s.b = bs at *
  generalize s.ended = ended at *
  generalize s.ec = ec at *
  generalize s.es = es at *
  generalize s.ei = ei at *
  generalize s.a = sa at *
  generalize s.c = sc at *
  have hli : (bs.length : Int) ≤ 100000 := by omega
  have HA := Lib.hid hA; have HB := Lib.hid hB; have HS := Lib.hid hs; have HND := Lib.hid hND
  have hout := fun (W : World) (S : List UInt8) => out_any S ended ec es ei W
  generalize (if ended = true then ((0 : Int), (0 : Int), (0 : Int)) else (ec, es, ei)) = E at *
  have HO := Lib.hid hout; clear hout
  have HP := Lib.hid (fun (W : World) (f : Fr No ((w.alloc (.cells #[.int .i64 k, .int .i64 n, .slice aA A.length cA, .slice aB B.length cB] 24)).alloc (.cells #[.slice sa bs.length sc, .bool ended, .int .i64 ec, .int .i64 es, .int .i64 ei] 61)) W) =>
    (show W.cell? ⟨w.heap.size, 2, none⟩ = some (.slice aA A.length cA) ∧ W.cell? ⟨w.heap.size, 3, none⟩ = some (.slice aB B.length cB) ∧ W.cell? ⟨w.heap.size + 1, 0, none⟩ = some (.slice sa bs.length sc) ∧ W.cell? ⟨w.heap.size + 1, 1, none⟩ = some (.bool ended) ∧ W.cell? ⟨w.heap.size + 1, 2, none⟩ = some (.int .i64 ec) ∧ W.cell? ⟨w.heap.size + 1, 3, none⟩ = some (.int .i64 es) ∧ W.cell? ⟨w.heap.size + 1, 4, none⟩ = some (.int .i64 ei) from
      have x1 := (box_at (((Fr.refl No _).alloc _).trans f)).1
      have x2 := (box_at f).1
      ⟨x1 2, x1 3, by have := x2 0; simpa using this, by have := x2 1; simpa using this, by have := x2 2; simpa using this, by have := x2 3; simpa using this, by have := x2 4; simpa using this⟩))
  clear hA hB hs hND hrow hrow1
  go_enter Try.func45, Try.ntmps45
  go_wp2
  go_loopw [6, 7] (fun v i wr => ∃ q : Nat, q ≤ bs.length ∧ i = .int .i64 q ∧ Hid (OwnSl wr 5 1 v ((bs.take q).flatMap (becomes A B)).length (((bs.take q).flatMap (becomes A B)).map bv)) ∧ Hid (Fr No ((w.alloc (.cells #[.int .i64 k, .int .i64 n, .slice aA A.length cA, .slice aB B.length cB] 24)).alloc (.cells #[.slice sa bs.length sc, .bool ended, .int .i64 ec, .int .i64 es, .int .i64 ei] 61)) wr) ∧ Hid (∀ x, v.ownBlock = some x → w.heap.size + 1 < x)) (fun _ i _ => bs.length - (intOf i).toNat)
  case atStart => exact ⟨0, Nat.zero_le _, rfl, Lib.hid (by simpa using OwnSl.nil _ 5 1), Lib.hid (Fr.refl _ _), Lib.hid (fun x e => by simp [Value.ownBlock] at e)⟩
  case round =>
    obtain ⟨q, hq, rfl, HO1, HF, HN⟩ := hrel
    obtain ⟨va, vc, rfl, hva, _⟩ := HO1.out.at
    have hsz := HF.out.size
    simp at hsz
    have hlc : ((bs.take q).flatMap (becomes A B)).length ≤ 100000 := Nat.le_trans (flat_len A B _) (by simp; omega)
    obtain ⟨p2, p3, r0, r1, r2, r3, r4⟩ := HP.out _ HF.out
    by_cases hlt : q < bs.length
    · have hqi : (q : Int) < bs.length := by omega
      have hft := flat_take (becomes A B) bs q hlt
      obtain ⟨gs, os, rfl, hrs⟩ := HS.out (by simp; omega)
      have hcx := hrs.get q (bv bs[q]) (by simp [hlt])
      have hgs := hrs.lt (by simp; omega)
      generalize bs[q] = x at *
      generalize (bs.take q).flatMap (becomes A B) = L at *
      have HFT := Lib.hid hft; clear hft hva
      have HCX := Lib.hid (fun (W : World) (f : Fr No w W) => (f.at.1 gs (os + q) hgs).trans hcx)
      clear hcx hrs
      go_wp2
      go_loopw [8, 9] (fun at_ jv W => ∃ j : Nat, j ≤ A.length ∧ jv = .int .i64 j ∧ at_ = .int .i64 (idxB (A.take j) x) ∧ Hid (Fr No wr W)) (fun _ jv _ => A.length - (intOf jv).toNat)
      case atStart => exact ⟨0, Nat.zero_le _, rfl, by simp [idxB], Lib.hid (Fr.refl _ _)⟩
      case round =>
        obtain ⟨j, hjl, rfl, rfl, HW⟩ := hrel
        obtain ⟨p2', p3', r0', r1', r2', r3', r4'⟩ := HP.out _ (HF.out.trans HW.out)
        have hcx' := HCX.out _ ((hbox.alloc _).trans (HF.out.trans HW.out))
        by_cases hjt : j < A.length
        · have hji : (j : Int) < A.length := by omega
          obtain ⟨xa, oa, rfl, hra⟩ := HA.out (by simp; omega)
          have hca := (hra.fr ((hbox.alloc _).trans (HF.out.trans HW.out)) (fun _ _ e => e)).get j (bv A[j]) (by simp [hjt])
          have htk : A.take (j + 1) = A.take j ++ [A[j]] := List.take_succ_eq_append_getElem hjt
          have hnd := nodup_take A HND.out j hjt
          have hlen : (A.take j).length = j := by simp; omega
          generalize A[j] = y at *
          have HTK := Lib.hid htk; clear htk hra
          by_cases hy : y = x
          · subst hy
            have e1 : idxB (A.take (j + 1)) y = j := by rw [HTK.out, idxB_snoc_hit _ _ hnd, hlen]
            have E1 := Lib.hid e1; clear e1 hnd hlen
            go_wp2
            go_region
            go_wp2
            go_roundw
            case rel => exact ⟨j + 1, by omega, by go_num, by rw [E1.out], Lib.hid HW.out.drew⟩
            case measure => simp [intOf]; omega
          · have e1 : idxB (A.take (j + 1)) x = idxB (A.take j) x := by rw [HTK.out, idxB_snoc_miss _ _ _ hy]
            have E1 := Lib.hid e1; clear e1 hnd hlen
            have hx1 : ((y.toNat : Int) == x.toNat) = false := by
              simp only [beq_eq_false_iff_ne]
              intro e; apply hy; exact UInt8.toNat.inj (by omega)
            have hx2 : (y.toNat == x.toNat) = false := by
              simp only [beq_eq_false_iff_ne]
              intro e; apply hy; exact UInt8.toNat.inj (by omega)
            have HY := Lib.hid hy; clear hy
            generalize idxB (A.take j) x = at0 at *
            go_wp2
            go_region
            go_wp2
            go_roundw
            case rel => exact ⟨j + 1, by omega, by go_num, by rw [E1.out], Lib.hid HW.out.drew⟩
            case measure => simp [intOf]; omega
        · obtain rfl : j = A.length := by omega
          rw [List.take_length]
          have HWW := Lib.hid (HF.out.trans HW.out)
          have HOW := Lib.hid (HO1.out.fr HW.out (fun _ _ _ e => e))
          have hsw := HWW.out.size
          simp at hsw
          by_cases hx : x ∈ A
          · obtain ⟨m, hm⟩ : ∃ m, A.idxOf x = m := ⟨_, rfl⟩
            have e1 : idxB A x = (m : Int) := by unfold idxB; rw [if_pos hx, hm]
            rw [e1]
            have n0 : ¬ (m : Int) < 0 := by omega
            by_cases hmB : m < B.length
            · have hmb : (m : Int) < B.length := by omega
              have eb := becomes_at hx m hm hmB
              obtain ⟨xb, ob, rfl, hrb⟩ := HB.out (by simp; omega)
              have hcb := (hrb.fr ((hbox.alloc _).trans HWW.out) (fun _ _ e => e)).get m (bv B[m]) (by simp [hmB])
              generalize B[m] = y at *
              have HEB := Lib.hid eb; clear eb hx hm hrb e1
              go_wp2_with (first
                | (at_builtin; refine wpList_append_sl rfl (.tmp 54) (.tmp 60) 22 22 rfl 5 j0 (.int .u8 0) 1 1 Try.underlying22 hj jz0 jz1 jz2 rfl (by decide) (.slice va L.length vc) L.length (L.map bv) rfl (HOW.out.fr ((Fr.refl No wr).alloc _) (fun _ _ _ e => e)) _ 1 [bv y] rfl (src_slice Try.underlying22 rfl (fun _ => ⟨wr.heap.size, 0, rfl, row_at wr #[bv y] _ rfl _ rfl 5 (0, 0)⟩) (by simp [Value.oneCell'])) (by omega) (by omega) ?_
                   intro v1 w1 hown1 hfr1 hblk1
                   have HO2 := Lib.hid hown1; have HF2 := Lib.hid hfr1; have HB2 := Lib.hid hblk1
                   clear hown1 hfr1 hblk1))
              go_roundw
              case rel =>
                refine ⟨q + 1, by omega, by go_num, Lib.hid ?_, Lib.hid ?_, Lib.hid (fun z e => ?_)⟩
                · rw [HFT.out, HEB.out]; have := HO2.out; simpa using this
                · exact HWW.out.step (((Fr.refl (Blk (.slice va L.length vc)) wr).alloc _).trans HF2.out) (fun z o hz e => by have := HN.out z e; simp at hz; omega)
                · rcases HB2.out with h | h
                  · rw [h] at e; exact HN.out z e
                  · rw [h] at e; injection e with e; simp at e; omega
              case measure => simp [intOf]; omega
            · have hmb : ¬ (m : Int) < B.length := by omega
              have eb := becomes_out hx m hm hmB
              have HEB := Lib.hid eb; clear eb hx hm e1
              go_wp2
              go_roundw
              case rel => exact ⟨q + 1, by omega, by go_num, Lib.hid (by rw [HFT.out, HEB.out, List.append_nil]; exact HOW.out), HWW, HN⟩
              case measure => simp [intOf]; omega
          · have e1 : idxB A x = -1 := by unfold idxB; rw [if_neg hx]
            rw [e1]
            have HEB := Lib.hid (becomes_no (B := B) hx); clear hx e1
            go_wp2_with (first
              | (at_builtin; refine wpList_append_sl rfl (.tmp 41) (.tmp 47) 22 22 rfl 5 j0 (.int .u8 0) 1 1 Try.underlying22 hj jz0 jz1 jz2 rfl (by decide) (.slice va L.length vc) L.length (L.map bv) rfl (HOW.out.fr ((Fr.refl No wr).alloc _) (fun _ _ _ e => e)) _ 1 [bv x] rfl (src_slice Try.underlying22 rfl (fun _ => ⟨wr.heap.size, 0, rfl, row_at wr #[bv x] _ rfl _ rfl 5 (0, 0)⟩) (by simp [Value.oneCell'])) (by omega) (by omega) ?_
                 intro v1 w1 hown1 hfr1 hblk1
                 have HO2 := Lib.hid hown1; have HF2 := Lib.hid hfr1; have HB2 := Lib.hid hblk1
                 clear hown1 hfr1 hblk1))
            go_roundw
            case rel =>
              refine ⟨q + 1, by omega, by go_num, Lib.hid ?_, Lib.hid ?_, Lib.hid (fun z e => ?_)⟩
              · rw [HFT.out, HEB.out]; have := HO2.out; simpa using this
              · exact HWW.out.step (((Fr.refl (Blk (.slice va L.length vc)) wr).alloc _).trans HF2.out) (fun z o hz e => by have := HN.out z e; simp at hz; omega)
              · rcases HB2.out with h | h
                · rw [h] at e; exact HN.out z e
                · rw [h] at e; injection e with e; simp at e; omega
            case measure => simp [intOf]; omega
    · obtain rfl : q = bs.length := by omega
      rw [List.take_length] at *
      have hcv := conv_at (P := Try.prog) (cap := vc) hva (src := 22) (dst := 9) Try.underlying22 Try.underlying5 Try.underlying9
      generalize bs.flatMap (becomes A B) = L at *
      have hqi : ¬ (bs.length : Int) < bs.length := by omega
      clear hva
      go_wp2_with (first
        | (go_at_call 64; refine (HO.out _ L).mono ?_; rintro en w3 ⟨g3, c3, za, zc, rfl, hr3, ha3, hf3⟩))
      go_ret
      exact ⟨g3, c3, za, zc, rfl, hr3, ha3, ((hbox.alloc _).trans HF.out).trans hf3⟩
end Go.Proofs.Ytcplbhjpefmliaa
