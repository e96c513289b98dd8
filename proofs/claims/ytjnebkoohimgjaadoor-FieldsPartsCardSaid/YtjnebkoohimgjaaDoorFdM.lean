/- Fields: the document's Fields, Line, Means. -/
import Derived.Test.YtjnebkoohimgjaaDoorFdN
import Derived.Test.YtjnebkoohimgjaaDoorRef
import Derived.Test.YtjnebkoohimgjaaDoorStrm
import Derived.Test.YtjnebkoohimgjaaDoorLiftS
import Derived.Deep.RegionHeld3
namespace Go.Proofs.YtjnebkoohimgjaaDoor
open Go.RowKit

theorem Tryd.info9m : (Tryd.prog.info? 9).map (fun i => (i.zero, i.size, i.bytes)) = some (some (.string ⟨#[]⟩), 1, 16) := by kernel_rfl
theorem own_one (w : World) (x : Value) (e : TypeId) : OwnSl (w.alloc (.cells #[x] e)) e 1 (.slice (some ⟨w.heap.size, 0, none⟩) 1 1) 1 [x] :=
  ⟨by simp, .inr ⟨w.heap.size, 0, 1, #[x], rfl, heap_alloc_new _ _, Nat.le_refl _, by decide, by simp, fun i hi => by
    have : i = 0 := by simpa using hi
    subst this; simp⟩⟩
theorem sv_two (a b : List UInt8) : Value.string ((⟨a.toArray⟩ : ByteArray) ++ ⟨b.toArray⟩) = sv (a ++ b) := by
  have e : ((⟨a.toArray⟩ : ByteArray) ++ ⟨b.toArray⟩) = ⟨(a ++ b).toArray⟩ := by
    apply ByteArray.ext
    simp [ByteArray.data_append]
  rw [e]
theorem sv_three (a b c : List UInt8) : Value.string ((⟨a.toArray⟩ : ByteArray) ++ ⟨b.toArray⟩ ++ ⟨c.toArray⟩) = sv (a ++ b ++ c) := by
  have e : ((⟨a.toArray⟩ : ByteArray) ++ ⟨b.toArray⟩ ++ ⟨c.toArray⟩) = ⟨(a ++ b ++ c).toArray⟩ := by
    apply ByteArray.ext
    simp [ByteArray.data_append]
  rw [e]
theorem snoc_of {l : List (List UInt8)} (h : 1 ≤ l.length) : ∃ i x, l = i ++ [x] := by
  have hne : l ≠ [] := fun e => by subst e; simp at h
  exact ⟨_, _, (List.dropLast_concat_getLast hne).symm⟩
theorem fldS_snoc (c : UInt8) (i : List (List UInt8)) (y : List UInt8) (x : UInt8) : fldS c (i ++ [y]) x = if x = c then i ++ [y] ++ [[]] else i ++ [y ++ [x]] := by
  unfold fldS
  split
  · rfl
  · simp
def FldPost (w : World) (l : List (List UInt8)) (e : Ending) (w' : World) : Prop := ∃ a cl, e = .returned (.slice a l.length cl) ∧ At w' a (l.map sv) ∧ Fr No w w'
set_option maxHeartbeats 4000000 in
set_option maxRecDepth 100000 in
theorem fields_any (s : List UInt8) (c : UInt8) (w : World) (hs : s.length ≤ 1000000) : Calls Tryd.prog 43 #[sv s, bv c] w (FldPost w (fldM c s)) := by
  obtain ⟨i0, hi, hz0, hz1, hz2⟩ := info_parts Tryd.info9m
  go_enter Tryd.func43, Tryd.ntmps43
  go_wp2
  go_loopw [5, 6] (fun v i wr => ∃ q : Nat, q ≤ s.length ∧ i = .int .i64 q ∧ Hid (OwnSl wr 9 1 v (fldM c (s.take q)).length ((fldM c (s.take q)).map sv)) ∧ Hid (∀ x, v.ownBlock = some x → w.heap.size ≤ x) ∧ Hid (Fr No w wr)) (fun _ i _ => s.length - (intOf i).toNat)
  case atStart => exact ⟨0, Nat.zero_le _, rfl, Lib.hid (own_one w (sv []) 9), Lib.hid (fun x e => by injection e with e; simp at e; omega), Lib.hid ((Fr.refl No w).alloc _)⟩
  case round =>
    obtain ⟨q, hq, rfl, HO, HNW, HF⟩ := hrel
    by_cases hlt : q < s.length
    · have hqi : (q : Int) < s.length := by omega
      have hfn := fld_next c s q hlt
      have hwt := fld_wt c (s.take q)
      rw [List.length_take] at hwt
      obtain ⟨li, y, hly⟩ := snoc_of (fld_pos c (s.take q))
      rw [hly] at HO hfn hwt
      rw [fldS_snoc] at hfn
      rw [wt_app, wt_one] at hwt
      have hll := len_wt li
      rw [List.length_append, List.length_singleton, List.map_append] at HO
      obtain ⟨va, vc, hv0, hvat, hvc⟩ := HO.out.at
      subst hv0
      obtain ⟨g, o, rfl, hcell, hfz⟩ := HO.out.get (j := li.length) (by omega)
      have hcell2 : wr.cell? ⟨g, o + li.length, none⟩ = some (sv y) := by rw [hcell]; simp [List.getD_eq_getElem?_getD]
      have hgl := World.block_lt_of_cell? _ _ hcell2
      have hsl : ∀ W : World, (Instr.slice 9 (sv s) (some (.int .i64 q)) (some (.int .i64 ((q : Int) + 1))) none).run Tryd.prog W = .ok (sv [s[q]]) W := fun W => by
        have h := run_slice_string (P := Tryd.prog) W 9 ⟨s.toArray⟩ .i64 .i64 (q : Int) ((q : Int) + 1) Tryd.underlying9 (by omega) (by omega) (by rw [size_mk]; omega)
        refine h.trans ?_
        rw [ByteArray.extract_mk]
        have e : (s.drop q).take (q + 1 - q) = [s[q]] := by
          rw [List.drop_eq_getElem_cons hlt, show q + 1 - q = 1 from by omega]; rfl
        rw [show ((q : Int).toNat) = q from by omega, show ((q : Int) + 1).toNat = q + 1 from by omega, e]
      have hgx : ∀ h, (⟨s.toArray⟩ : ByteArray)[q]'h = s[q]'hlt := fun _ => rfl
      clear hcell hvat
      generalize s[q] = x at *
      have z1 : ¬ 9223372036854775807 < y.length + 1 := by omega
      have HST := Lib.hid (sv_two y [x])
      by_cases hx : x = c
      · subst hx
        rw [if_pos rfl] at hfn
        have HFN := Lib.hid hfn; clear hfn hsl hcell2 hfz
        go_wp2_with (first
          | (at_builtin; refine wpList_append_sl rfl (.tmp 19) (.tmp 20) 49 49 rfl 9 i0 (.string ⟨#[]⟩) 1 16 Tryd.underlying49 hi hz0 hz1 hz2 rfl (by decide) (.slice (some ⟨g, o, none⟩) (li.length + 1) vc) (li.length + 1) (li.map sv ++ [y].map sv) rfl (HO.out.fr ((Fr.refl No wr).alloc _) (fun _ _ _ e => e)) _ 1 [sv []] rfl (src_slice Tryd.underlying49 rfl (fun _ => ⟨wr.heap.size, 0, rfl, row_at wr #[sv []] _ rfl _ rfl 9 (0, 0)⟩) (by simp [Value.oneCell'])) (by omega) (by omega) ?_
             intro v1 w1 hown1 hfr1 hblk1
             have HO1 := Lib.hid hown1; have HB1 := Lib.hid hblk1; have HF1 := Lib.hid (((Fr.refl (Blk (.slice (some ⟨g, o, none⟩) (li.length + 1) vc)) wr).alloc _).trans hfr1)
             clear hown1 hfr1 hblk1))
        go_roundw
        case rel =>
          refine ⟨q + 1, by omega, by go_num, ?_, Lib.hid (fun z e => ?_), Lib.hid (HF.out.step HF1.out (fun z o hy h => by have h9 := HNW.out z h; omega))⟩
          · rw [HFN.out, List.length_append, List.length_append, List.map_append, List.map_append]; exact HO1
          · rcases HB1.out with h | h
            · rw [h] at e; exact HNW.out z e
            · rw [h] at e; injection e with e; have h9 := HF.out.size; simp at h9 e; omega
        case measure => simp [intOf]; omega
      · rw [if_neg hx] at hfn
        have hx1 : ((x.toNat : Int) == c.toNat) = false := by
          simp only [beq_eq_false_iff_ne]
          intro e; apply hx; exact UInt8.toNat.inj (by omega)
        have hx2 : (x.toNat == c.toNat) = false := by
          simp only [beq_eq_false_iff_ne]
          intro e; apply hx; exact UInt8.toNat.inj (by omega)
        have HFN := Lib.hid hfn; clear hfn hx
        have HY := Lib.hid (HO.out.set (j := li.length) (by omega) (sv (y ++ [x])))
        go_wp2
        go_region
        go_wp2
        go_roundw
        case rel =>
          have hg9 := HNW.out g rfl
          have FS := (frSet wr g (o + li.length) (sv (y ++ [x])))
          refine ⟨q + 1, by omega, by go_num, ?_, HNW, Lib.hid ?_⟩
          · rw [HST.out, HFN.out, List.length_append, List.map_append]
            refine Lib.hid ?_
            have h := HY.out.fr (Fr.refl No _).drew (fun _ _ _ x => x)
            rw [List.set_append_right _ _ (by simp)] at h
            simpa using h
          · rw [HST.out]
            exact (HF.out.step FS (fun z _ hz e => by omega)).drew
        case measure => simp [intOf]; omega
    · obtain rfl : q = s.length := by omega
      rw [List.take_length] at HO
      obtain ⟨va, vc, hv0, hvat, hvc⟩ := HO.out.at
      subst hv0
      have HAT := Lib.hid hvat; clear hvat
      go_wp2
      go_ret
      exact ⟨va, vc, rfl, HAT.out, HF.out⟩
def LnSv (w : World) (s : List UInt8) (e : Ending) (w' : World) : Prop := e = .returned (sv s) ∧ Fr No w w'
theorem rem_even (n q : Nat) : (((n : Int) / 2 ^ q).tmod 2 == 0) = !decide (n / 2 ^ q % 2 = 1) := by
  have e : (n : Int) / 2 ^ q = ((n / 2 ^ q : Nat) : Int) := by rw [Int.natCast_ediv, Int.natCast_pow]; rfl
  rw [e, show ((n / 2 ^ q : Nat) : Int).tmod 2 = ((n / 2 ^ q % 2 : Nat) : Int) from rfl]
  rcases Nat.mod_two_eq_zero_or_one (n / 2 ^ q) with h | h <;> rw [h] <;> rfl
set_option maxHeartbeats 4000000 in
set_option maxRecDepth 100000 in
theorem line_any (k : Int) (n : Nat) (aA aB : Option Addr) (c : UInt8) (B : List UInt8) (cA cB : Nat) (s : List UInt8) (w : World) (hn : n < 65536) (hA : At w aA [bv c]) (hs : s.length ≤ 100000) :
    Calls Tryd.prog 33 #[.agg #[.int .i64 k, .int .i64 n, .slice aA 1 cA, .slice aB B.length cB], sv s] w (LnSv w (lineM c n s)) := by
  have hbox := (Fr.refl No w).alloc (.cells #[.int .i64 k, .int .i64 n, .slice aA 1 cA, .slice aB B.length cB] 24)
  obtain ⟨ga, oa, rfl, hr⟩ := hA (by simp)
  have hcc := fun (W : World) (f : Fr No w W) => (hr.fr f (fun _ _ x => x)).get 0 (bv c) rfl
  have hcc0 := hcc _ hbox
  rw [Nat.add_zero] at hcc0
  have HCV := Lib.hid (fun (W : World) (hW : Fr No w W) => conv_at (P := Tryd.prog) (cap := cA) (l := [c]) (at_no (show At w (some ⟨ga, oa, none⟩) ([c].map bv) from hA) hW) (src := 22) (dst := 9) Tryd.underlying22 Tryd.underlying5 Tryd.underlying9)
  have HFL := Lib.hid (fields_any s c (w.alloc (.cells #[.int .i64 k, .int .i64 n, .slice (some ⟨ga, oa, none⟩) 1 cA, .slice aB B.length cB] 24)) (by omega))
  have hlen := fld_len c s
  have hwt := fld_wt c s
  have hpos := fld_pos c s
  clear hcc hr hA
  unfold lineM
  by_cases h1 : (fldM c s).length = 1
  · rw [if_pos h1]
    generalize fldM c s = l at *
    have h1i : ((l.length : Int) == 1) = true := by rw [h1]; rfl
    go_enter Tryd.func33, Tryd.ntmps33
    go_wp2_with (first
      | (go_at_call 43; refine HFL.out.mono ?_; rintro e w1 ⟨a1, c1, rfl, hat1, hf1⟩; have HF1 := Lib.hid (hbox.trans hf1); clear hf1 hat1))
    go_ret
    exact ⟨rfl, HF1.out⟩
  · rw [if_neg h1]
    have hsw := sel_wt n (fldM c s) 0
    generalize fldM c s = l at *
    have h1i : ((l.length : Int) == 1) = false := by simp; omega
    clear hpos
    go_enter Tryd.func33, Tryd.ntmps33
    go_wp2_with (first
      | (go_at_call 43; refine HFL.out.mono ?_; rintro e w1 ⟨a1, c1, rfl, hat1, hf1⟩; have HF1 := Lib.hid (hbox.trans hf1); have HAT := Lib.hid hat1
         obtain ⟨b1, z1⟩ := box_at hf1
         have b11 := b1 1
         have b12 := b1 2
         clear hf1 hat1 b1))
    go_loopw [6, 7, 8] (fun o f i wr => ∃ q : Nat, q ≤ l.length ∧ i = .int .i64 q ∧ o = sv (Lib.join (selM n 0 (l.take q)) [c]) ∧ f = .bool (decide (selM n 0 (l.take q) = [])) ∧ Hid (Fr No w1 wr)) (fun _ _ i _ => l.length - (intOf i).toNat)
    case atStart => exact ⟨0, Nat.zero_le _, rfl, rfl, rfl, Lib.hid (Fr.refl _ _)⟩
    case round =>
      obtain ⟨q, hq, rfl, rfl, rfl, HF⟩ := hrel
      have b11' := (HF.out.at.1 w.heap.size 1 z1).trans b11
      have b12' := (HF.out.at.1 w.heap.size 2 z1).trans b12
      have hcv : (convert 22 9 (.slice (some ⟨ga, oa, none⟩) 1 cA)).run Tryd.prog wr = .ok (.string ⟨#[c]⟩) wr := HCV.out wr (HF1.out.trans HF.out)
      by_cases hlt : q < l.length
      · have hqi : (q : Int) < l.length := by omega
        obtain ⟨gl, ol, rfl, hrl⟩ := HAT.out (by simp; omega)
        have hcell := (hrl.fr HF.out (fun _ _ x => x)).get q (sv l[q]) (by simp [hlt])
        have hsn := sel_next n l q hlt
        have hsm := sel_wt n (l.take (q + 1)) 0
        have hwl : wtM (l.take (q + 1)) ≤ wtM l := by
          have e := wt_app (l.take (q + 1)) (l.drop (q + 1))
          rw [List.take_append_drop] at e; omega
        generalize l[q] = x at *
        by_cases h16 : q < 16
        · have h16i : (q : Int) < 16 := by omega
          have hbp := rem_even n q
          by_cases hbit : n / 2 ^ q % 2 = 1
          · rw [if_pos ⟨h16, hbit⟩] at hsn
            rw [decide_eq_true hbit] at hbp
            have hjl := join_le c (selM n 0 (l.take q))
            rw [hsn, wt_app, wt_one] at hsm
            have HSN := Lib.hid hsn; clear hsn hbit
            generalize selM n 0 (l.take q) = sl at *
            have hz1 : ¬ 9223372036854775807 < (Lib.join sl [c]).length + 1 := by omega
            have hz2 : ¬ 9223372036854775807 < (Lib.join sl [c]).length + 1 + x.length := by omega
            have hz3 : ¬ 9223372036854775807 < (Lib.join sl [c]).length + x.length := by omega
            by_cases hsl : sl = []
            · have hdec : decide (sl = []) = true := decide_eq_true hsl
              have HJ := Lib.hid (show Lib.join (sl ++ [x]) [c] = Lib.join sl [c] ++ x from by subst hsl; rw [List.nil_append, Lib.join_one, Lib.join_nil]; rfl)
              have HD := Lib.hid (show decide (sl ++ [x] = []) = false from by simp)
              generalize Lib.join sl [c] = js at *
              have HST := Lib.hid (sv_two js x)
              clear hsl
              go_wp2
              go_roundw
              case rel => exact ⟨q + 1, by omega, by go_num, by rw [HSN.out, HJ.out]; exact HST.out, by rw [HSN.out, HD.out], HF⟩
              case measure => simp [intOf]; omega
            · have hdec : decide (sl = []) = false := decide_eq_false hsl
              have HJ := Lib.hid (join_snoc c sl x hsl)
              have HD := Lib.hid (show decide (sl ++ [x] = []) = false from by simp)
              generalize Lib.join sl [c] = js at *
              have HST := Lib.hid (sv_three js [c] x)
              clear hsl
              go_wp2
              go_roundw
              case rel => exact ⟨q + 1, by omega, by go_num, by rw [HSN.out, HJ.out]; exact HST.out, by rw [HSN.out, HD.out], HF⟩
              case measure => simp [intOf]; omega
          · rw [if_neg (fun h => hbit h.2), List.append_nil] at hsn
            rw [decide_eq_false hbit] at hbp
            have HSN := Lib.hid hsn; clear hsn hbit
            go_wp2
            go_roundw
            case rel => exact ⟨q + 1, by omega, by go_num, by rw [HSN.out], by rw [HSN.out], HF⟩
            case measure => simp [intOf]; omega
        · have h16i : ¬ (q : Int) < 16 := by omega
          have hs16 := sel_16 n l q (.inr (by omega)) hq
          go_wp2
          go_ret
          exact ⟨rfl, HF1.out.trans HF.out⟩
      · have hqi : ¬ (q : Int) < l.length := by omega
        have hs16 := sel_16 n l q (.inl (by omega)) hq
        go_wp2
        go_ret
        exact ⟨rfl, HF1.out.trans HF.out⟩
set_option maxHeartbeats 4000000 in
set_option maxRecDepth 100000 in
theorem fields_means (k : Int) (n : Nat) (aA aB : Option Addr) (c : UInt8) (B : List UInt8) (cA cB : Nat) (ig ioff ci : Nat) (s : Strm) (w : World) (hn : n < 65536) (hA : At w aA [bv c])
    (hrow : Row w ig ioff (strmC s.a s.b s.c s.ended s.ec s.es s.ei)) (hs : At w s.a (s.b.map bv)) (hl : s.b.length ≤ 100000) (hc : s.b.length ≤ s.c) :
    Calls Tryd.prog 23 #[.agg #[.int .i64 k, .int .i64 n, .slice aA 1 cA, .slice aB B.length cB], .slice (some ⟨ig, ioff, none⟩) 1 ci] w
      (OnePost w (fdAll c n (rlines s.b s.ended)) (rdAll s.b s.ended) (if rdAll s.b s.ended then (0, 0, 0) else rdErr s.b s.ended (s.ec, s.es, s.ei))) := by
  have hig := hrow.lt (by simp [strmC])
  have hbox := (Fr.refl No w).alloc (.cells #[.int .i64 k, .int .i64 n, .slice aA 1 cA, .slice aB B.length cB] 24)
  have hrow1 := hrow.fr hbox (fun _ _ x => x)
  have i0 := hrow1.get 0 _ rfl
  have i1 := hrow1.get 1 _ rfl
  have i2 := hrow1.get 2 _ rfl
  have i3 := hrow1.get 3 _ rfl
  have i4 := hrow1.get 4 _ rfl
  rw [Nat.add_zero] at i0
  have hlines := rdlines_any s.a s.c s.b s.ended s.ec s.es s.ei _ (at_no hs hbox) (by omega) hc
  have HLN := Lib.hid hlines; clear hlines
  have hw := jn_rlines s.b s.ended
  have hjl := jn_len (rlines s.b s.ended)
  have HLI := Lib.hid (fun (x : List UInt8) (W : World) (f : Fr No w W) (hx : x.length ≤ 100000) => line_any k n aA aB c B cA cB x W hn (at_no (show At w aA ([c].map bv) from hA) f) hx)
  generalize rlines s.b s.ended = ls at *
  generalize rdAll s.b s.ended = all at *
  generalize rdErr s.b s.ended (s.ec, s.es, s.ei) = er at *
  obtain ⟨e1, e2, e3⟩ := er
  clear hrow hrow1 hA
  generalize hE2 : (if all = true then ((0, 0, 0) : Int × Int × Int) else (e1, e2, e3)) = E2
  have HE2 := Lib.hid hE2; clear hE2
  go_enter Tryd.func23, Tryd.ntmps23
  go_wp2_with (first
    | (go_at_call 30; refine HLN.out.mono ?_; rintro en w1 ⟨a1, c1, rfl, hat1, hf1⟩
       dsimp only [rdC]
       obtain ⟨b1, z1⟩ := box_at hf1
       have HB1 := Lib.hid b1
       have HAT := Lib.hid hat1; have HF := Lib.hid (hbox.trans hf1); clear hat1 b1))
  go_loopw [6, 7] (fun s i wr => ∃ q : Nat, q ≤ ls.length ∧ i = .int .i64 q ∧ s = sv (fdAll c n (ls.take q)) ∧ Hid (Fr No (w1.alloc (.cells #[.slice a1 ls.length c1, .bool all, .int .i64 e1, .int .i64 e2, .int .i64 e3] 93)) wr)) (fun _ i _ => ls.length - (intOf i).toNat)
  case atStart => exact ⟨0, Nat.zero_le _, rfl, rfl, Lib.hid (Fr.refl _ _)⟩
  case round =>
    obtain ⟨q, hq, rfl, rfl, HFR⟩ := hrel
    have HC6 := Lib.hid (fun (W : World) (f : Fr No wr W) => (show (W.cell? ⟨w.heap.size, 0, none⟩ = some (.int .i64 k) ∧ W.cell? ⟨w.heap.size, 1, none⟩ = some (.int .i64 n) ∧ W.cell? ⟨w.heap.size, 2, none⟩ = some (.slice aA 1 cA) ∧ W.cell? ⟨w.heap.size, 3, none⟩ = some (.slice aB B.length cB)) ∧ (W.cell? ⟨w1.heap.size, 0, none⟩ = some (.slice a1 ls.length c1) ∧ W.cell? ⟨w1.heap.size, 1, none⟩ = some (.bool all) ∧ W.cell? ⟨w1.heap.size, 2, none⟩ = some (.int .i64 e1) ∧ W.cell? ⟨w1.heap.size, 3, none⟩ = some (.int .i64 e2) ∧ W.cell? ⟨w1.heap.size, 4, none⟩ = some (.int .i64 e3)) from
      have d := (box_at (HFR.out.trans f)).1
      have b := fun o => ((((Fr.refl No w1).alloc _).trans (HFR.out.trans f)).at.1 w.heap.size o z1).trans (HB1.out o)
      ⟨⟨b 0, b 1, b 2, b 3⟩, ⟨d 0, d 1, d 2, d 3, d 4⟩⟩))
    have HW := Lib.hid ((HF.out.alloc _).trans HFR.out)
    obtain ⟨⟨p0, p1, p2, p3⟩, ⟨d10, d11, d12, d13, d14⟩⟩ := HC6.out wr (Fr.refl _ _)
    by_cases hlt : q < ls.length
    · have hqi : (q : Int) < ls.length := by omega
      obtain ⟨ga, oa, rfl, hr1⟩ := HAT.out (by simp; omega)
      have HCL := Lib.hid (fun (W : World) (f : Fr No wr W) => (hr1.fr ((((Fr.refl No w1).alloc _).trans HFR.out).trans f) (fun _ _ x => x)).get q (sv ls[q]) (by simp [hlt]))
      have hpn := fdAll_next c n ls q hlt
      have hple := fdAll_le c n ls (q + 1)
      have hxl := jn_in ls q hlt
      have hll := line_len c n ls[q]
      rw [hpn] at hple
      generalize ls[q] = x at *
      generalize fdAll c n (ls.take q) = jq at *
      have HLI2 := Lib.hid (fun (W : World) (f : Fr No wr W) => HLI.out x W (HW.out.trans f) (by omega))
      generalize lineM c n x = lx at *
      have z1 : ¬ 9223372036854775807 < jq.length + lx.length := by simp at hple; omega
      have z2 : ¬ 9223372036854775807 < jq.length + lx.length + 1 := by simp at hple; omega
      have HPN := Lib.hid hpn
      have HST := Lib.hid (sv_three jq lx [10])
      clear hpn hple hr1
      have hS0 := (show (fun W : World => (W.cell? ⟨w.heap.size, 0, none⟩ = some (.int .i64 k) ∧ W.cell? ⟨w.heap.size, 1, none⟩ = some (.int .i64 n) ∧ W.cell? ⟨w.heap.size, 2, none⟩ = some (.slice aA 1 cA) ∧ W.cell? ⟨w.heap.size, 3, none⟩ = some (.slice aB B.length cB)) ∧ W.cell? ⟨w1.heap.size, 0, none⟩ = some (.slice (some ⟨ga, oa, none⟩) ls.length c1) ∧ W.cell? ⟨ga, oa + q, none⟩ = some (sv x)) wr.drew from ⟨(HC6.out _ (Fr.refl _ _).drew).1, (HC6.out _ (Fr.refl _ _).drew).2.1, HCL.out _ (Fr.refl _ _).drew⟩)
      go_wp2_with fail
      go_region_held3 (fun W => (W.cell? ⟨w.heap.size, 0, none⟩ = some (.int .i64 k) ∧ W.cell? ⟨w.heap.size, 1, none⟩ = some (.int .i64 n) ∧ W.cell? ⟨w.heap.size, 2, none⟩ = some (.slice aA 1 cA) ∧ W.cell? ⟨w.heap.size, 3, none⟩ = some (.slice aB B.length cB)) ∧ W.cell? ⟨w1.heap.size, 0, none⟩ = some (.slice (some ⟨ga, oa, none⟩) ls.length c1) ∧ W.cell? ⟨ga, oa + q, none⟩ = some (sv x)) (first | exact hS0 | exact ⟨(HC6.out _ (Fr.refl _ _).drew).1, (HC6.out _ (Fr.refl _ _).drew).2.1, HCL.out _ (Fr.refl _ _).drew⟩ | exact ⟨(HC6.out _ ((Fr.refl _ _).drew.trans g1)).1, (HC6.out _ ((Fr.refl _ _).drew.trans g1)).2.1, HCL.out _ ((Fr.refl _ _).drew.trans g1)⟩)
        (first
          | (go_at_call 33; refine (HLI2.out _ (Fr.refl _ _).drew).mono ?_; rintro e6 w6 ⟨rfl, g1⟩))
      all_goals
        go_wp2
        go_roundw
        case rel => exact ⟨q + 1, by omega, by go_num, by rw [HPN.out, ← List.append_assoc]; exact HST.out, Lib.hid (HFR.out.trans ((Fr.refl _ _).drew.trans g1))⟩
        case measure => simp [intOf]; omega
    · obtain rfl : q = ls.length := by omega
      rw [List.take_length]
      generalize fdAll c n ls = J at *
      go_wp2_with (first
        | (go_at_call 34; refine (out_any J all e1 e2 e3 _).mono ?_; rintro en w3 ⟨g3, c3, sa, sc, rfl, hr3, ha3, hf3⟩))
      go_ret
      rw [← HE2.out]
      exact ⟨g3, c3, sa, sc, rfl, hr3, ha3, HW.out.trans hf3⟩
end Go.Proofs.YtjnebkoohimgjaaDoor
