/- Graphs, the document's words: Ins, Outs. -/
import Derived.Test.YtljldkknopmfhaaGrH
import Derived.Test.YtljldkknopmfhaaGrA
import Derived.Test.YtljldkknopmfhaaGrI
namespace Go.Proofs.Ytljldkknopmfhaa
open Go.RowKit

/-- A row of numbers that grows. -/
structure OR (w1 : World) (l : List Int) (v : Value) (W : World) : Prop where
  own : OwnSl W 3 1 v l.length (l.map iv)
  new : ∀ b, v.ownBlock = some b → w1.heap.size ≤ b
  fr : Fr No w1 W
theorem OR.keep {w1 W W' : World} {l : List Int} {v : Value} (h : OR w1 l v W) (r : Fr No W W') : OR w1 l v W' := ⟨h.own.fr r (fun _ _ _ y => y), h.new, h.fr.trans r⟩
theorem OR.next {w1 W W5 : World} {l : List Int} {v v5 : Value} (h : OR w1 l v W) (z : Int) (hown : OwnSl W5 3 1 v5 (l.length + 1) (l.map iv ++ [iv z])) (hf : Fr (Blk v) W W5) (hb : v5.ownBlock = v.ownBlock ∨ v5.ownBlock = some W.heap.size) : OR w1 (l ++ [z]) v5 W5 :=
  ⟨by simpa using hown, fun b e => by
    rcases hb with h1 | h1
    · rw [h1] at e; exact h.new b e
    · rw [h1] at e; injection e with e; have := h.fr.size; omega, h.fr.step hf (fun b o hb e => by have := h.new b e; omega)⟩
theorem OR.done {w w1 W : World} {l : List Int} {v : Value} (h : OR w1 l v W) (k : Fr No w w1) : RowPost w l (.returned v) W := by
  obtain ⟨a, c, rfl, hat, _⟩ := h.own.at
  exact ⟨a, c, rfl, hat, k.trans h.fr⟩
theorem range_next (f : Nat → Int) (k : Nat) : (List.range (k + 1)).map f = (List.range k).map f ++ [f k] := by rw [List.range_succ, List.map_append]; rfl
set_option maxHeartbeats 8000000 in
set_option maxRecDepth 100000 in
theorem ins_ref (w : World) (x : Gv) (hx : x.Ok w) (hsm : Sml x) (s : Int) : Calls Try.prog 52 #[.agg #[.slice x.sa x.sp.length x.sc, .slice x.da x.du.length x.dc], .int .i64 s] w (RowPost w (x.g.insL s)) := by
  have HXB := Lib.hid (fun (W : World) (h : Fr No (w.alloc (.cells #[.slice x.sa x.sp.length x.sc, .slice x.da x.du.length x.dc] 63)) W) => hx.fr (((Fr.refl No w).alloc _).trans h))
  have HB := Lib.hid (fun (W : World) (h : Fr No (w.alloc (.cells #[.slice x.sa x.sp.length x.sc, .slice x.da x.du.length x.dc] 63)) W) => show W.cell? ⟨w.heap.size, 0, none⟩ = some (.slice x.sa x.sp.length x.sc) ∧ W.cell? ⟨w.heap.size, 1, none⟩ = some (.slice x.da x.du.length x.dc) from ⟨cell_block (box_block h) 0, cell_block (box_block h) 1⟩)
  have K0 := Lib.hid ((Fr.refl No w).alloc (.cells #[.slice x.sa x.sp.length x.sc, .slice x.da x.du.length x.dc] 63))
  have HCK := Lib.hid (check_ref (w.alloc (.cells #[.slice x.sa x.sp.length x.sc, .slice x.da x.du.length x.dc] 63)) x (HXB.out _ (Fr.refl _ _)) hsm)
  unfold RChk at HCK
  have HNO := Lib.hid (fun (W : World) (h : Fr No w W) (e : x.g.insL s = []) => show RowPost w (x.g.insL s) (.returned (.slice none 0 0)) W from by rw [e]; exact ⟨none, 0, rfl, At.nil _ _, h⟩)
  have hLL : x.g.insL s = if x.g.check.2 = 0 ∧ 0 ≤ s ∧ s < x.g.st.length then x.g.insOf s.toNat else [] := rfl
  have hsi : (x.sp.length : Int) ≤ 200 := by have := hsm.s; omega
  by_cases hck : x.g.check.2 = 0
  · by_cases hp : 0 ≤ s ∧ s < x.sp.length
    · obtain ⟨n, rfl⟩ : ∃ n : Nat, s = n := ⟨s.toNat, by omega⟩
      have hn : n < x.sp.length := by omega
      have hni : (n : Int) < x.sp.length := hp.2
      have hn0 : (0 : Int) ≤ n := hp.1
      have hmem := List.getElem_mem hn
      have HA := Lib.hid (fun (W : World) (h : Fr No (w.alloc (.cells #[.slice x.sa x.sp.length x.sc, .slice x.da x.du.length x.dc] 63)) W) => srarity_any x.sp[n] W ((HXB.out W h).sp _ hmem) (hsm.b _ hmem))
      have hfew := stg_few (x.sp[n]).s (hx.sp _ hmem).most
      have hrow : x.g.insL n = (List.range (x.sp[n]).s.ins.toNat).map fun (k : Nat) => inAt x.du n k := by
        rw [hLL, if_pos ⟨hck, hp.1, by rw [x.st_len]; exact hp.2⟩, Int.toNat_natCast, insOf_eq (by rw [x.st_len]; exact hn), x.s_at hn]; rfl
      have HI := Lib.hid (fun (W : World) (h : Fr No (w.alloc (.cells #[.slice x.sa x.sp.length x.sc, .slice x.da x.du.length x.dc] 63)) W) (p : Int) => in_ref W x (HXB.out W h) hsm.d n p)
      obtain ⟨gs, os, hsa, hsr⟩ := (HXB.out _ (Fr.refl _ _)).st.flat sp_len (by decide) (by omega)
      have HC := Lib.hid (fun (W : World) (h : Fr No (w.alloc (.cells #[.slice x.sa x.sp.length x.sc, .slice x.da x.du.length x.dc] 63)) W) => show (W.cell? ⟨w.heap.size, 0, none⟩ = some (.slice (some ⟨gs, os, none⟩) x.sp.length x.sc) ∧ W.cell? ⟨w.heap.size, 1, none⟩ = some (.slice x.da x.du.length x.dc)) ∧ _ from
        ⟨⟨(HB.out W h).1.trans (by rw [hsa]), (HB.out W h).2⟩, sp_cells (hsr.fr h (fun _ _ y => y)) hn⟩)
      have HPT := Lib.hid (fun (W : World) => port_any n x.sp.length W)
      rw [portB_yes hn0 hni] at HPT
      rw [hck] at HCK
      have HRW := Lib.hid hrow
      obtain ⟨j0, hj, jz0, jz1, jz2⟩ := info_parts ints_info'
      clear hx hsm hck hp hmem hsa hsr hLL hrow
      generalize x.sp[n] = sp at *
      obtain ⟨⟨pk, pn, pA, pB⟩, aA, cA, aB, cB⟩ := sp
      dsimp only at *
      generalize Stg.ins ⟨pk, pn, pA, pB⟩ = ins at *
      generalize Stg.outs ⟨pk, pn, pA, pB⟩ = outs at *
      generalize Stg.chk ⟨pk, pn, pA, pB⟩ = ch at *
      obtain ⟨f1, f2, f3, f4⟩ := hfew
      obtain ⟨ni, rfl⟩ : ∃ ni : Nat, ins = ni := ⟨ins.toNat, by omega⟩
      obtain ⟨no, rfl⟩ : ∃ no : Nat, outs = no := ⟨outs.toNat, by omega⟩
      simp only [Int.toNat_natCast] at HRW
      go_enter Try.func52, Try.ntmps52
      go_wp2_with (first
        | (go_at_call 45; refine HCK.out.mono ?_; rintro e w2 ⟨rfl, hf2⟩
           have HF2 := Lib.hid hf2
           obtain ⟨⟨c0, c1⟩, s0, s1, s2, s3⟩ := HC.out _ hf2
           clear hf2)
        | (go_at_call 78; refine (HPT.out _).mono ?_; rintro e w6 ⟨rfl, rfl⟩)
        | (go_at_call 31; refine (HA.out _ HF2.out).mono ?_; rintro e w3 ⟨rfl, hf3⟩
           have HF3 := Lib.hid (HF2.out.trans hf3)
           clear hf3 c0 c1 s0 s1 s2 s3))
      go_loopw [10, 11] (fun v i wr => ∃ (k : Nat) (a : Option Addr) (c : Nat), k ≤ ni ∧ v = .slice a k c ∧ i = .int .i64 k ∧ Hid (OR w3 ((List.range k).map fun (q : Nat) => inAt x.du n q) (.slice a k c) wr)) (fun _ i _ => ni - (intOf i).toNat)
      case atStart => exact ⟨0, none, 0, Nat.zero_le _, rfl, rfl, Lib.hid ⟨OwnSl.nil _ _ _, by simp [Value.ownBlock], Fr.refl _ _⟩⟩
      case round =>
        obtain ⟨k, a, c, hk, rfl, rfl, HO⟩ := hrel
        by_cases hlt : k < ni
        · have hki : (k : Int) < ni := by omega
          have HFW := Lib.hid (HF3.out.trans HO.out.fr)
          obtain ⟨c0, c1⟩ := HB.out _ HFW.out
          have HIK := Lib.hid (HI.out _ HFW.out k)
          have HN := Lib.hid (range_next (fun (q : Nat) => inAt x.du n q) k)
          have HLN := Lib.hid (show ((List.range k).map fun (q : Nat) => inAt x.du n q).length = k from by simp)
          generalize inAt x.du n k = z at *
          generalize (List.range k).map (fun (q : Nat) => inAt x.du n q) = l at *
          go_wp2_with (first
            | (go_at_call 79; refine HIK.out.mono ?_; rintro e w4 ⟨rfl, hf4⟩
               have HO4 := Lib.hid (HO.out.keep (hf4.alloc (.cells #[.int .i64 z] 3)))
               clear hf4)
            | (at_builtin
               refine wpList_append_sl rfl (.tmp 42) (.tmp 47) 57 57 rfl 3 j0 (.int .i64 0) 1 8 Try.underlying57 hj jz0 jz1 jz2 rfl (by decide) (.slice a k c) k (l.map iv) rfl (by have := HO4.out.own; rw [HLN.out] at this; exact this) _ 1 [iv z] rfl (src_slice Try.underlying57 (by simp) (fun _ => ⟨w4.heap.size, 0, rfl, row_at w4 #[iv z] _ rfl _ rfl 3 (0, 0)⟩) (by simp [iv, Value.oneCell'])) (by omega) (by omega) ?_
               intro v5 w5 hown5 hfr5 hblk5
               obtain ⟨a5, c5, hv5, -, -⟩ := hown5.at
               subst hv5
               have hn5 := HO4.out.next z (by rw [HLN.out]; exact hown5) hfr5 hblk5
               rw [← HN.out] at hn5
               have HO5 := Lib.hid hn5
               clear hown5 hfr5 hblk5 hn5))
          go_roundw
          case rel => exact ⟨k + 1, a5, c5, by omega, rfl, by go_num, HO5⟩
          case measure => simp [intOf]; omega
        · obtain rfl : k = ni := by omega
          have HE := Lib.hid (HO.out.done ((K0.out.trans HF3.out)))
          rw [← HRW.out] at HE
          go_wp2
          go_ret
          exact HE.out
    · have HPB := Lib.hid (fun (W : World) => port_any s x.sp.length W)
      have hpb : portB s x.sp.length = false := by
        cases h : portB s x.sp.length with
        | false => rfl
        | true => exact absurd (by simpa [portB] using h) hp
      rw [hpb] at HPB
      have hE : x.g.insL s = [] := by rw [hLL, if_neg (fun h => hp ⟨h.2.1, by have := h.2.2; rwa [x.st_len] at this⟩)]
      have HE := Lib.hid (fun (W : World) (h : Fr No w W) => HNO.out W h hE)
      rw [hck] at HCK
      clear hx hsm hck hp hLL hpb hE
      generalize x.g.insL s = l at *
      go_enter Try.func52, Try.ntmps52
      go_wp2_with (first
        | (go_at_call 45; refine HCK.out.mono ?_; rintro e w2 ⟨rfl, hf2⟩
           have HF2 := Lib.hid hf2
           obtain ⟨c0, c1⟩ := HB.out _ hf2
           clear hf2)
        | (go_at_call 78; refine (HPB.out _).mono ?_; rintro e w6 ⟨rfl, rfl⟩))
      go_ret
      exact HE.out _ (K0.out.trans HF2.out)
  · have hcb : (x.g.check.2 != 0) = true := by simpa using hck
    have hE : x.g.insL s = [] := by rw [hLL, if_neg (fun h => hck h.1)]
    have HE := Lib.hid (fun (W : World) (h : Fr No w W) => HNO.out W h hE)
    clear hx hsm hck hLL hE
    generalize x.g.insL s = l at *
    generalize x.g.check = ck at *
    go_enter Try.func52, Try.ntmps52
    go_wp2_with (first
      | (go_at_call 45; refine HCK.out.mono ?_; rintro e w2 ⟨rfl, hf2⟩))
    go_ret
    exact HE.out _ (K0.out.trans hf2)
set_option maxHeartbeats 8000000 in
set_option maxRecDepth 100000 in
theorem outs_ref (w : World) (x : Gv) (hx : x.Ok w) (hsm : Sml x) (s : Int) : Calls Try.prog 53 #[.agg #[.slice x.sa x.sp.length x.sc, .slice x.da x.du.length x.dc], .int .i64 s] w (RowPost w (x.g.outsL s)) := by
  have HXB := Lib.hid (fun (W : World) (h : Fr No (w.alloc (.cells #[.slice x.sa x.sp.length x.sc, .slice x.da x.du.length x.dc] 63)) W) => hx.fr (((Fr.refl No w).alloc _).trans h))
  have HB := Lib.hid (fun (W : World) (h : Fr No (w.alloc (.cells #[.slice x.sa x.sp.length x.sc, .slice x.da x.du.length x.dc] 63)) W) => show W.cell? ⟨w.heap.size, 0, none⟩ = some (.slice x.sa x.sp.length x.sc) ∧ W.cell? ⟨w.heap.size, 1, none⟩ = some (.slice x.da x.du.length x.dc) from ⟨cell_block (box_block h) 0, cell_block (box_block h) 1⟩)
  have K0 := Lib.hid ((Fr.refl No w).alloc (.cells #[.slice x.sa x.sp.length x.sc, .slice x.da x.du.length x.dc] 63))
  have HCK := Lib.hid (check_ref (w.alloc (.cells #[.slice x.sa x.sp.length x.sc, .slice x.da x.du.length x.dc] 63)) x (HXB.out _ (Fr.refl _ _)) hsm)
  unfold RChk at HCK
  have HNO := Lib.hid (fun (W : World) (h : Fr No w W) (e : x.g.outsL s = []) => show RowPost w (x.g.outsL s) (.returned (.slice none 0 0)) W from by rw [e]; exact ⟨none, 0, rfl, At.nil _ _, h⟩)
  have hLL : x.g.outsL s = if x.g.check.2 = 0 ∧ 0 ≤ s ∧ s < x.g.st.length then x.g.outsOf s.toNat else [] := rfl
  have hsi : (x.sp.length : Int) ≤ 200 := by have := hsm.s; omega
  by_cases hck : x.g.check.2 = 0
  · by_cases hp : 0 ≤ s ∧ s < x.sp.length
    · obtain ⟨n, rfl⟩ : ∃ n : Nat, s = n := ⟨s.toNat, by omega⟩
      have hn : n < x.sp.length := by omega
      have hni : (n : Int) < x.sp.length := hp.2
      have hn0 : (0 : Int) ≤ n := hp.1
      have hmem := List.getElem_mem hn
      have HA := Lib.hid (fun (W : World) (h : Fr No (w.alloc (.cells #[.slice x.sa x.sp.length x.sc, .slice x.da x.du.length x.dc] 63)) W) => srarity_any x.sp[n] W ((HXB.out W h).sp _ hmem) (hsm.b _ hmem))
      have hfew := stg_few (x.sp[n]).s (hx.sp _ hmem).most
      have hrow : x.g.outsL n = (List.range (x.sp[n]).s.outs.toNat).map fun (k : Nat) => outAt x.du n k := by
        rw [hLL, if_pos ⟨hck, hp.1, by rw [x.st_len]; exact hp.2⟩, Int.toNat_natCast, outsOf_eq (by rw [x.st_len]; exact hn), x.s_at hn]; rfl
      have HI := Lib.hid (fun (W : World) (h : Fr No (w.alloc (.cells #[.slice x.sa x.sp.length x.sc, .slice x.da x.du.length x.dc] 63)) W) (p : Int) => out_ref W x (HXB.out W h) hsm.d n p)
      obtain ⟨gs, os, hsa, hsr⟩ := (HXB.out _ (Fr.refl _ _)).st.flat sp_len (by decide) (by omega)
      have HC := Lib.hid (fun (W : World) (h : Fr No (w.alloc (.cells #[.slice x.sa x.sp.length x.sc, .slice x.da x.du.length x.dc] 63)) W) => show (W.cell? ⟨w.heap.size, 0, none⟩ = some (.slice (some ⟨gs, os, none⟩) x.sp.length x.sc) ∧ W.cell? ⟨w.heap.size, 1, none⟩ = some (.slice x.da x.du.length x.dc)) ∧ _ from
        ⟨⟨(HB.out W h).1.trans (by rw [hsa]), (HB.out W h).2⟩, sp_cells (hsr.fr h (fun _ _ y => y)) hn⟩)
      have HPT := Lib.hid (fun (W : World) => port_any n x.sp.length W)
      rw [portB_yes hn0 hni] at HPT
      rw [hck] at HCK
      have HRW := Lib.hid hrow
      obtain ⟨j0, hj, jz0, jz1, jz2⟩ := info_parts ints_info'
      clear hx hsm hck hp hmem hsa hsr hLL hrow
      generalize x.sp[n] = sp at *
      obtain ⟨⟨pk, pn, pA, pB⟩, aA, cA, aB, cB⟩ := sp
      dsimp only at *
      generalize Stg.ins ⟨pk, pn, pA, pB⟩ = ins at *
      generalize Stg.outs ⟨pk, pn, pA, pB⟩ = outs at *
      generalize Stg.chk ⟨pk, pn, pA, pB⟩ = ch at *
      obtain ⟨f1, f2, f3, f4⟩ := hfew
      obtain ⟨ni, rfl⟩ : ∃ ni : Nat, ins = ni := ⟨ins.toNat, by omega⟩
      obtain ⟨no, rfl⟩ : ∃ no : Nat, outs = no := ⟨outs.toNat, by omega⟩
      simp only [Int.toNat_natCast] at HRW
      go_enter Try.func53, Try.ntmps53
      go_wp2_with (first
        | (go_at_call 45; refine HCK.out.mono ?_; rintro e w2 ⟨rfl, hf2⟩
           have HF2 := Lib.hid hf2
           obtain ⟨⟨c0, c1⟩, s0, s1, s2, s3⟩ := HC.out _ hf2
           clear hf2)
        | (go_at_call 78; refine (HPT.out _).mono ?_; rintro e w6 ⟨rfl, rfl⟩)
        | (go_at_call 31; refine (HA.out _ HF2.out).mono ?_; rintro e w3 ⟨rfl, hf3⟩
           have HF3 := Lib.hid (HF2.out.trans hf3)
           clear hf3 c0 c1 s0 s1 s2 s3))
      go_loopw [10, 11] (fun v i wr => ∃ (k : Nat) (a : Option Addr) (c : Nat), k ≤ no ∧ v = .slice a k c ∧ i = .int .i64 k ∧ Hid (OR w3 ((List.range k).map fun (q : Nat) => outAt x.du n q) (.slice a k c) wr)) (fun _ i _ => no - (intOf i).toNat)
      case atStart => exact ⟨0, none, 0, Nat.zero_le _, rfl, rfl, Lib.hid ⟨OwnSl.nil _ _ _, by simp [Value.ownBlock], Fr.refl _ _⟩⟩
      case round =>
        obtain ⟨k, a, c, hk, rfl, rfl, HO⟩ := hrel
        by_cases hlt : k < no
        · have hki : (k : Int) < no := by omega
          have HFW := Lib.hid (HF3.out.trans HO.out.fr)
          obtain ⟨c0, c1⟩ := HB.out _ HFW.out
          have HIK := Lib.hid (HI.out _ HFW.out k)
          have HN := Lib.hid (range_next (fun (q : Nat) => outAt x.du n q) k)
          have HLN := Lib.hid (show ((List.range k).map fun (q : Nat) => outAt x.du n q).length = k from by simp)
          generalize outAt x.du n k = z at *
          generalize (List.range k).map (fun (q : Nat) => outAt x.du n q) = l at *
          go_wp2_with (first
            | (go_at_call 80; refine HIK.out.mono ?_; rintro e w4 ⟨rfl, hf4⟩
               have HO4 := Lib.hid (HO.out.keep (hf4.alloc (.cells #[.int .i64 z] 3)))
               clear hf4)
            | (at_builtin
               refine wpList_append_sl rfl (.tmp 42) (.tmp 47) 57 57 rfl 3 j0 (.int .i64 0) 1 8 Try.underlying57 hj jz0 jz1 jz2 rfl (by decide) (.slice a k c) k (l.map iv) rfl (by have := HO4.out.own; rw [HLN.out] at this; exact this) _ 1 [iv z] rfl (src_slice Try.underlying57 (by simp) (fun _ => ⟨w4.heap.size, 0, rfl, row_at w4 #[iv z] _ rfl _ rfl 3 (0, 0)⟩) (by simp [iv, Value.oneCell'])) (by omega) (by omega) ?_
               intro v5 w5 hown5 hfr5 hblk5
               obtain ⟨a5, c5, hv5, -, -⟩ := hown5.at
               subst hv5
               have hn5 := HO4.out.next z (by rw [HLN.out]; exact hown5) hfr5 hblk5
               rw [← HN.out] at hn5
               have HO5 := Lib.hid hn5
               clear hown5 hfr5 hblk5 hn5))
          go_roundw
          case rel => exact ⟨k + 1, a5, c5, by omega, rfl, by go_num, HO5⟩
          case measure => simp [intOf]; omega
        · obtain rfl : k = no := by omega
          have HE := Lib.hid (HO.out.done ((K0.out.trans HF3.out)))
          rw [← HRW.out] at HE
          go_wp2
          go_ret
          exact HE.out
    · have HPB := Lib.hid (fun (W : World) => port_any s x.sp.length W)
      have hpb : portB s x.sp.length = false := by
        cases h : portB s x.sp.length with
        | false => rfl
        | true => exact absurd (by simpa [portB] using h) hp
      rw [hpb] at HPB
      have hE : x.g.outsL s = [] := by rw [hLL, if_neg (fun h => hp ⟨h.2.1, by have := h.2.2; rwa [x.st_len] at this⟩)]
      have HE := Lib.hid (fun (W : World) (h : Fr No w W) => HNO.out W h hE)
      rw [hck] at HCK
      clear hx hsm hck hp hLL hpb hE
      generalize x.g.outsL s = l at *
      go_enter Try.func53, Try.ntmps53
      go_wp2_with (first
        | (go_at_call 45; refine HCK.out.mono ?_; rintro e w2 ⟨rfl, hf2⟩
           have HF2 := Lib.hid hf2
           obtain ⟨c0, c1⟩ := HB.out _ hf2
           clear hf2)
        | (go_at_call 78; refine (HPB.out _).mono ?_; rintro e w6 ⟨rfl, rfl⟩))
      go_ret
      exact HE.out _ (K0.out.trans HF2.out)
  · have hcb : (x.g.check.2 != 0) = true := by simpa using hck
    have hE : x.g.outsL s = [] := by rw [hLL, if_neg (fun h => hck h.1)]
    have HE := Lib.hid (fun (W : World) (h : Fr No w W) => HNO.out W h hE)
    clear hx hsm hck hLL hE
    generalize x.g.outsL s = l at *
    generalize x.g.check = ck at *
    go_enter Try.func53, Try.ntmps53
    go_wp2_with (first
      | (go_at_call 45; refine HCK.out.mono ?_; rintro e w2 ⟨rfl, hf2⟩))
    go_ret
    exact HE.out _ (K0.out.trans hf2)
end Go.Proofs.Ytljldkknopmfhaa
