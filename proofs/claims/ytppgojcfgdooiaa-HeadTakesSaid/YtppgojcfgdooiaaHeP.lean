/- HeadTakes, walked. -/
import Derived.Test.YtppgojcfgdooiaaHeT
import Derived.Test.YtppgojcfgdooiaaHeTk
import Derived.Test.YtppgojcfgdooiaaLaw
import Derived.Test.YtppgojcfgdooiaaRfc
import Derived.Test.YtppgojcfgdooiaaLiftP
import Derived.Test.YtppgojcfgdooiaaLiftS
import Derived.Deep.RegionHeld3
namespace Go.Proofs.Ytppgojcfgdooiaa
open Go.RowKit

/-- Lines of bytes that have ended, as the laws ask for them. -/
def LnPost (w : World) (ls : List (List UInt8)) (all : Bool) (en : Ending) (w' : World) : Prop :=
  ∃ a c, en = .returned (.tuple #[.slice a ls.length c, .bool all]) ∧ At w' a (ls.map sv) ∧ Fr No w w' ∧ ls.length ≤ c
set_option maxHeartbeats 4000000 in
set_option maxRecDepth 100000 in
theorem lines_any (a : Option Addr) (cap : Nat) (b : List UInt8) (w : World) (hr : At w a (b.map bv)) (hn : b.length ≤ 100000000) (hc : b.length ≤ cap) :
    Calls Try.prog 24 #[.slice a b.length cap] w (LnPost w (rlines b true) (rdAll b true)) := by
  have hlines := rdlines_cap a cap b true 0 0 0 w hr hn hc
  generalize rlines b true = ls at *
  generalize rdAll b true = all at *
  generalize rdErr b true (0, 0, 0) = er at *
  obtain ⟨e1, e2, e3⟩ := er
  have HLN := Lib.hid hlines; clear hlines hr
  go_enter Try.func24, Try.ntmps24
  go_wp2_with (first
    | (go_at_call 35; refine HLN.out.mono ?_; rintro en w1 ⟨a1, c1, rfl, hat1, hf1, hc1⟩
       dsimp only [rdC]
       have HAT := Lib.hid hat1; have HF := Lib.hid hf1; have HC1 := Lib.hid hc1; clear hat1 hf1 hc1))
  go_quiet (fail)
  go_wp2
  go_ret2
  have f : Fr No w1 ((w1.alloc (.cells #[.slice a1 ls.length c1, .bool all, .int .i64 e1, .int .i64 e2, .int .i64 e3] 97)).drewN nq) := ((Fr.refl No w1).alloc _).drewN nq
  exact ⟨a1, c1, rfl, at_no HAT.out f, HF.out.trans f, HC1.out⟩
theorem jm_one (x : List UInt8) (l : List (List UInt8)) : joinM (x :: l) = x ++ [10] ++ joinM l := by simp [joinM]
theorem jm_app (l m : List (List UInt8)) : joinM (l ++ m) = joinM l ++ joinM m := by simp [joinM]
theorem jm_next (ls : List (List UInt8)) (q : Nat) (h : q < ls.length) : joinM (ls.take (q + 1)) = joinM (ls.take q) ++ (ls[q] ++ [10]) := by
  rw [List.take_succ_eq_append_getElem h, jm_app, jm_one]; simp [joinM]
theorem jm_le (ls : List (List UInt8)) (q : Nat) : (joinM (ls.take q)).length ≤ (joinM ls).length := by
  have e : joinM ls = joinM (ls.take q) ++ joinM (ls.drop q) := by rw [← jm_app, List.take_append_drop]
  rw [e]; simp
theorem jm_len : ∀ l : List (List UInt8), l.length ≤ (joinM l).length
  | [] => by simp [joinM]
  | x :: l => by
    have := jm_len l
    rw [jm_one]; simp; omega
theorem jm_rlines (b : List UInt8) (ended : Bool) : (joinM (rlines b ended)).length ≤ b.length + 1 := by
  have h := cutM_weight b [] []
  simp only [show joinM [] = [] from rfl, List.length_nil, Nat.zero_add] at h
  unfold rlines
  split
  · omega
  · split
    · have : joinM ((cutM b [] []).1 ++ [(cutM b [] []).2.1]) = joinM (cutM b [] []).1 ++ ((cutM b [] []).2.1 ++ [10]) := by simp [joinM]
      rw [this]; simp only [List.length_append, List.length_cons, List.length_nil]; omega
    · omega
theorem jm_sv3 (a b : List UInt8) : Value.string ((⟨a.toArray⟩ : ByteArray) ++ ⟨b.toArray⟩ ++ ⟨#[10]⟩) = sv (a ++ (b ++ [10])) := by
  congr 1
  apply ByteArray.ext
  simp [ByteArray.data_append]
def SvPost (w : World) (s : List UInt8) (e : Ending) (w' : World) : Prop := e = .returned (sv s) ∧ w' = w
set_option maxHeartbeats 4000000 in
set_option maxRecDepth 100000 in
theorem joined_any (a : Option Addr) (c : Nat) (ls : List (List UInt8)) (w : World) (ha : At w a (ls.map sv)) (hl : (joinM ls).length ≤ 1000000) :
    Calls Try.prog 26 #[.slice a ls.length c] w (SvPost w (joinM ls)) := by
  have HA := Lib.hid ha; clear ha
  have hll := jm_len ls
  go_enter Try.func26, Try.ntmps26
  go_wp2
  go_loop [3, 4] (fun s i => ∃ q : Nat, q ≤ ls.length ∧ s = sv (joinM (ls.take q)) ∧ i = .int .i64 q) (fun _ i => ls.length - (intOf i).toNat)
  case atStart => exact ⟨0, Nat.zero_le _, rfl, rfl⟩
  case round =>
    obtain ⟨q, hq, rfl, rfl⟩ := hrel
    by_cases hlt : q < ls.length
    · have hqi : (q : Int) < ls.length := by omega
      obtain ⟨ga, oa, rfl, hr1⟩ := HA.out (by simp; omega)
      have hcell := hr1.get q (sv ls[q]) (by simp [hlt])
      have hnx := jm_next ls q hlt
      have hle := jm_le ls (q + 1)
      rw [hnx] at hle
      generalize ls[q] = x at *
      generalize joinM (ls.take q) = jq at *
      have HNX := Lib.hid hnx; clear hnx
      have z1 : ¬ 9223372036854775807 < jq.length + x.length := by simp at hle; omega
      have z2 : ¬ 9223372036854775807 < jq.length + x.length + 1 := by simp at hle; omega
      have HST := Lib.hid (jm_sv3 jq x)
      go_wp2
      go_round
      case rel => exact ⟨q + 1, by omega, by rw [HNX.out, HST.out], by go_num⟩
      case measure => simp [intOf]; omega
    · obtain rfl : q = ls.length := by omega
      have HT := Lib.hid (List.take_length (l := ls))
      go_wp2
      go_ret
      exact ⟨rfl, rfl⟩
theorem head_fits (m : Nat) (h : m ≤ 1000000000) : chkR 3 (m : Int) [] [] = 0 ∧ fchk 3 3 (m : Int) [] [] = 0 := by
  have h1 : chkR 3 (m : Int) [] [] = 0 := by
    unfold chkR rowR holdsR withinB
    simp; omega
  refine ⟨h1, ?_⟩
  unfold fchk
  rw [(agree 3 (m : Int) [] [] (by omega)).1, h1]
  simp
theorem Try.info9'' : (Try.prog.info? 9).map (fun i => (i.zero, i.size, i.bytes)) = some (some (.string ⟨#[]⟩), 1, 16) := by kernel_rfl
theorem At.one {w : World} {v : Value} {g : Nat} (h : w.cell? ⟨g, 0, none⟩ = some v) : At w (some ⟨g, 0, none⟩) [v] := by
  refine fun _ => ⟨g, 0, rfl, fun i hi => ?_⟩
  obtain rfl : i = 0 := by simpa using hi
  simpa using h
theorem two_cells (w3 : World) (G : Obj) (v1 v2 : Value) (t1 t2 : TypeId) : (((w3.alloc G).alloc (.cells #[v1] t1)).alloc (.cells #[v2] t2)).cell? ⟨w3.heap.size + 1 + 1, 0, none⟩ = some v2 ∧ (((w3.alloc G).alloc (.cells #[v1] t1)).alloc (.cells #[v2] t2)).cell? ⟨w3.heap.size + 1, 0, none⟩ = some v1 := by
  constructor
  · have := World.cell?_alloc_new ((w3.alloc G).alloc (.cells #[v1] t1)) #[v2] t2 (i := 0)
    simpa using this
  · have h1 := World.cell?_alloc_new (w3.alloc G) #[v1] t1 (i := 0)
    have h2 := ((Fr.refl No ((w3.alloc G).alloc (.cells #[v1] t1))).alloc (.cells #[v2] t2)).at.1 (w3.heap.size + 1) 0 (by simp)
    rw [h2]
    simp
set_option maxHeartbeats 16000000 in
set_option maxRecDepth 100000 in
theorem core_headTakes (w : World) (n : Int) (ba : Option Addr) (bc : Nat) (b : List UInt8) (ca : Option Addr) (cc : Nat) (cuts : List Int)
    (hb : At w ba (b.map bv)) (hbc : b.length ≤ bc) (hc : At w ca (cuts.map iv)) :
    Calls Try.prog 9 #[.int .i64 n, .slice ba b.length bc, .slice ca cuts.length cc] w (TruePost w) := by
  obtain ⟨i0, hi, hz0, hz1, hz2⟩ := info_parts Try.info9''
  have hsz : (Try.prog.info? 42).map (·.size) = some 12 := by kernel_rfl
  have HSZ := Lib.hid hsz; clear hsz
  have HB := Lib.hid hb; have HC := Lib.hid hc
  clear hb hc
  have hhv0 := fun (W : World) (g : Nat) (hr : Row W g 0 [.slice ca cuts.length cc]) => heavy_any 3 n none none none (some ⟨g, 0, none⟩) [] [] 0 0 0 1 [] [(ca, cuts.length, cc)] W (At.nil _ _) (fun _ => ⟨g, 0, rfl, hr⟩) (by simp)
  simp only [List.length_nil, List.length_cons, Nat.zero_add] at hhv0
  obtain ⟨hv, hhv⟩ : ∃ x, x = heavyB [] [] [] [(ca, cuts.length, cc)] := ⟨_, rfl⟩
  rw [← hhv] at hhv0
  have HHV := Lib.hid hhv0
  have HHD := Lib.hid hhv.symm
  clear hhv0 hhv
  have HBOX := Lib.hid (fun (W : World) (f : Fr No (w.alloc (.cells #[.int .i64 3, .int .i64 n, .slice none 0 0, .slice none 0 0] 24)) W) => (show (W.cell? ⟨w.heap.size, 0, none⟩ = some (.int .i64 3) ∧ W.cell? ⟨w.heap.size, 1, none⟩ = some (.int .i64 n) ∧ W.cell? ⟨w.heap.size, 2, none⟩ = some (.slice none 0 0) ∧ W.cell? ⟨w.heap.size, 3, none⟩ = some (.slice none 0 0)) from
    have x1 := (box_at f).1
    ⟨x1 0, x1 1, x1 2, x1 3⟩))
  have HW1 := Lib.hid ((Fr.refl No w).alloc (.cells #[.int .i64 3, .int .i64 n, .slice none 0 0, .slice none 0 0] 24))
  cases hv with
  | true =>
    go_enter Try.func9, Try.ntmps9
    go_wp2_with (first
      | (go_at_call 10; refine (HHV.out _ (w.heap.size + 1) (row_at _ #[.slice ca cuts.length cc] _ rfl _ (by simp) 37 (0, 0))).mono ?_; rintro e1 w1 ⟨rfl, hf1⟩; have HF1 := Lib.hid hf1; clear hf1)
      | (go_at_call 11; refine (awake_any _).mono ?_; rintro e9 w9 ⟨rfl, hf9⟩))
    go_ret
    exact ⟨rfl, ((HW1.out.alloc _).trans HF1.out).trans hf9⟩
  | false =>
    have hcl : cuts.length ≤ 100000 := by
      have := HHD.out
      simp only [heavyB, decide_eq_false_iff_not, not_or] at this
      obtain ⟨_, _, _, _, h5⟩ := this
      have : ¬ 3000 < cuts.length := fun h => h5 ⟨(ca, cuts.length, cc), by simp, h⟩
      omega
    by_cases hbl : 2000 < b.length
    · have hbi : (2000 : Int) < b.length := by omega
      go_enter Try.func9, Try.ntmps9
      go_wp2_with (first
        | (go_at_call 10; refine (HHV.out _ (w.heap.size + 1) (row_at _ #[.slice ca cuts.length cc] _ rfl _ (by simp) 37 (0, 0))).mono ?_; rintro e1 w1 ⟨rfl, hf1⟩; have HF1 := Lib.hid hf1; clear hf1)
        | (go_at_call 11; refine (awake_any _).mono ?_; rintro e9 w9 ⟨rfl, hf9⟩))
      go_ret
      exact ⟨rfl, ((HW1.out.alloc _).trans HF1.out).trans hf9⟩
    · have hbi : decide ((2000 : Int) < b.length) = false := decide_eq_false (by omega)
      by_cases h0 : n < 0
      · go_enter Try.func9, Try.ntmps9
        go_wp2_with (first
          | (go_at_call 10; refine (HHV.out _ (w.heap.size + 1) (row_at _ #[.slice ca cuts.length cc] _ rfl _ (by simp) 37 (0, 0))).mono ?_; rintro e1 w1 ⟨rfl, hf1⟩; have HF1 := Lib.hid hf1; clear hf1)
          | (go_at_call 11; refine (awake_any _).mono ?_; rintro e9 w9 ⟨rfl, hf9⟩))
        go_ret
        exact ⟨rfl, ((HW1.out.alloc _).trans HF1.out).trans hf9⟩
      · have h0d : decide (n < 0) = false := decide_eq_false h0
        by_cases h31 : 1000000000 < n
        · go_enter Try.func9, Try.ntmps9
          go_wp2_with (first
            | (go_at_call 10; refine (HHV.out _ (w.heap.size + 1) (row_at _ #[.slice ca cuts.length cc] _ rfl _ (by simp) 37 (0, 0))).mono ?_; rintro e1 w1 ⟨rfl, hf1⟩; have HF1 := Lib.hid hf1; clear hf1)
            | (go_at_call 11; refine (awake_any _).mono ?_; rintro e9 w9 ⟨rfl, hf9⟩))
          go_ret
          exact ⟨rfl, ((HW1.out.alloc _).trans HF1.out).trans hf9⟩
        · have h31d : decide (1000000000 < n) = false := decide_eq_false h31
          obtain ⟨m, rfl⟩ : ∃ m : Nat, n = m := ⟨n.toNat, by omega⟩
          have hm : m ≤ 1000000000 := by omega
          obtain ⟨hck, hfk⟩ := head_fits m hm
          have hjr := jm_rlines b true
          have HLN := Lib.hid (fun (W : World) (hW : Fr No w W) => lines_any ba bc b W (at_no HB.out hW) (by omega) hbc)
          cases hlg : rlong b with
          | true =>
            have hall : rdAll b true = false := by unfold rdAll; rw [hlg]; rfl
            rw [hall] at HLN
            clear hall hck hfk
            go_enter Try.func9, Try.ntmps9
            go_wp2_with (first
              | (go_at_call 10; refine (HHV.out _ (w.heap.size + 1) (row_at _ #[.slice ca cuts.length cc] _ rfl _ (by simp) 37 (0, 0))).mono ?_; rintro e1 w1 ⟨rfl, hf1⟩; have HF1 := Lib.hid hf1; clear hf1)
              | (go_at_call 24; refine (HLN.out _ ((HW1.out.alloc _).trans HF1.out)).mono ?_; rintro e2 w2 ⟨a2, c2, rfl, _, hf2, _⟩; have HF2 := Lib.hid hf2; clear hf2)
              | (go_at_call 11; refine (awake_any _).mono ?_; rintro e9 w9 ⟨rfl, hf9⟩))
            go_ret
            exact ⟨rfl, (((HW1.out.alloc _).trans HF1.out).trans HF2.out).trans hf9⟩
          | false =>
            have hall : rdAll b true = true := by unfold rdAll; rw [hlg]; rfl
            rw [hall] at HLN
            have hsay : saysM (m : Int) [] [] b true = (joinM ((rlines b true).take m), -1, 0) := by
              show headR (m : Int) b true = _
              unfold headR
              rw [if_pos (.inr ⟨hlg, rfl⟩), show ((m : Int)).toNat = m from by omega]
            have htk := head_took m hm b (by omega) hlg
            have htl := fun (W : World) (gi : Nat) (hW : Fr No w W) (hin : W.cell? ⟨gi, 0, none⟩ = some (.slice ba b.length bc)) => told_took (m : Int) none none [] [] 0 0 W (At.nil _ _) (At.nil _ _) (by simp) (by simp) hck hfk ca cc cuts (at_no HC.out hW) hcl gi 1 ba bc b hin (at_no HB.out hW) (by omega) hbc _ hsay _ rfl
            have htl2 := fun (W : World) (gi ga : Nat) (hW : Fr No w W) (hin : W.cell? ⟨gi, 0, none⟩ = some (.slice ba b.length bc)) (hca : W.cell? ⟨ga, 0, none⟩ = some (.int .i64 0)) => told_took (m : Int) none none [] [] 0 0 W (At.nil _ _) (At.nil _ _) (by simp) (by simp) hck hfk (some ⟨ga, 0, none⟩) 1 [0] (At.one hca) (by simp) gi 1 ba bc b hin (at_no HB.out hW) (by omega) hbc _ hsay _ htk
            simp only [List.length_nil, List.length_cons, Nat.zero_add] at htl htl2
            generalize (drive (modM (m : Int) [] []) b true cuts (startM (m : Int) [] [])).taken = tk1 at *
            have hjl := jm_le (rlines b true) m
            have hlen := jm_len (rlines b true)
            clear hsay htk hck hfk hall
            generalize rlines b true = ls at *
            obtain ⟨o, ho⟩ : ∃ x, x = joinM (ls.take m) := ⟨_, rfl⟩
            rw [← ho] at htl htl2 hjl
            obtain ⟨tk2, htk2⟩ : ∃ t, t = if m ≤ ls.length then min o.length b.length else b.length := ⟨_, rfl⟩
            rw [← htk2] at htl2
            have HTL := Lib.hid htl; have HTL2 := Lib.hid htl2; have HO := Lib.hid ho; have HTK := Lib.hid htk2
            clear htl htl2 ho htk2
            go_enter Try.func9, Try.ntmps9
            go_upto_region 11 with (first
              | (go_at_call 10; refine (HHV.out _ (w.heap.size + 1) (row_at _ #[.slice ca cuts.length cc] _ rfl _ (by simp) 37 (0, 0))).mono ?_; rintro e1 w1 ⟨rfl, hf1⟩; have HF1 := Lib.hid ((HW1.out.alloc _).trans hf1); have HX1 := Lib.hid (((Fr.refl No _).alloc _).trans hf1); clear hf1)
              | (go_at_call 24; refine (HLN.out _ HF1.out).mono ?_; rintro e2 w2 ⟨a2, c2, rfl, hat2, hf2, hc2⟩; have HF2 := Lib.hid (HF1.out.trans hf2); have HAT := Lib.hid hat2; have HX2 := Lib.hid (HX1.out.trans hf2); have HC2 := Lib.hid hc2
                 obtain ⟨x0, x1, x2, x3⟩ := HBOX.out _ HX2.out; clear hf2 hat2 hc2)
              | (go_at_call 25; have hz := two_cells w3 (.cells #[sv o, sv [], sv [], sv [], .int .i64 (-1), .int .i64 0, .int .i64 held1, .int .i64 tk1, .int .i64 0, .int .i64 0, .int .i64 0, .bool false] 42) (.int .i64 0) (.slice ba b.length bc) 3 22
                 have HW := (((HF3.out.alloc (.cells #[sv o, sv [], sv [], sv [], .int .i64 (-1), .int .i64 0, .int .i64 held1, .int .i64 tk1, .int .i64 0, .int .i64 0, .int .i64 0, .bool false] 42)).alloc (.cells #[.int .i64 0] 3)).alloc (.cells #[.slice ba b.length bc] 22))
                 have HXW := (((HX3.out.alloc (.cells #[sv o, sv [], sv [], sv [], .int .i64 (-1), .int .i64 0, .int .i64 held1, .int .i64 tk1, .int .i64 0, .int .i64 0, .int .i64 0, .bool false] 42)).alloc (.cells #[.int .i64 0] 3)).alloc (.cells #[.slice ba b.length bc] 22))
                 have hg0 := (((Fr.refl No (w3.alloc (.cells #[sv o, sv [], sv [], sv [], .int .i64 (-1), .int .i64 0, .int .i64 held1, .int .i64 tk1, .int .i64 0, .int .i64 0, .int .i64 0, .bool false] 42))).alloc (.cells #[.int .i64 0] 3)).alloc (.cells #[.slice ba b.length bc] 22))
                 have HH := HTL2.out _ _ _ HW hz.1 hz.2
                 refine HH.mono ?_; rintro e4 w4 ⟨held2, rfl, hf4⟩
                 have HF4 := Lib.hid (HW.trans hf4)
                 have hg1 := hg0.trans hf4
                 have HG1 := Lib.hid (show ∀ W, Fr No w4 W → W.cell? ⟨w3.heap.size, 0, none⟩ = some (sv o) from fun W f => (box_at (hg1.trans f)).1 0)
                 have HAT4 := Lib.hid (at_no HAT.out (HXW.trans hf4))
                 have hz4 : w3.heap.size < w4.heap.size := World.block_lt_of_cell? w4 _ (HG1.out _ (Fr.refl No w4))
                 clear hf4 hg1 hg0 HXW HW HH hz HTL2
                 dsimp only [gotC])
              | (go_at_call 25; refine (HTL.out _ w2.heap.size (HF2.out.alloc _) (by simp)).mono ?_; rintro e3 w3 ⟨held1, rfl, hf3⟩
                 have HX3 := Lib.hid (((Fr.refl No w2).alloc _).trans hf3); have HF3 := Lib.hid (HF2.out.trans HX3.out); clear hf3 HTL
                 obtain ⟨y0, y1, y2, y3⟩ := HBOX.out _ (HX2.out.trans HX3.out)
                 have hz3 : w.heap.size < w3.heap.size := World.block_lt_of_cell? w3 _ y0
                 dsimp only [gotC]))
            have HU := Lib.hid (fun (W : World) (f : Fr No (w4.alloc (.cells #[sv o, sv [], sv [], sv [], .int .i64 (-1), .int .i64 0, .int .i64 held2, .int .i64 tk2, .int .i64 0, .int .i64 0, .int .i64 0, .bool false] 42)) W) => (show W.cell? ⟨w3.heap.size, 0, none⟩ = some (sv o) ∧ W.cell? ⟨w4.heap.size, 0, none⟩ = some (sv o) ∧ W.cell? ⟨w4.heap.size, 7, none⟩ = some (.int .i64 tk2) from
              ⟨HG1.out _ (((Fr.refl No w4).alloc (.cells #[sv o, sv [], sv [], sv [], .int .i64 (-1), .int .i64 0, .int .i64 held2, .int .i64 tk2, .int .i64 0, .int .i64 0, .int .i64 0, .bool false] 42)).trans f), (box_at f).1 0, (box_at f).1 7⟩))
            have KE := Lib.hid (HF4.out.alloc (.cells #[sv o, sv [], sv [], sv [], .int .i64 (-1), .int .i64 0, .int .i64 held2, .int .i64 tk2, .int .i64 0, .int .i64 0, .int .i64 0, .bool false] 42))
            have HATE := Lib.hid (at_no HAT4.out ((Fr.refl No w4).alloc (.cells #[sv o, sv [], sv [], sv [], .int .i64 (-1), .int .i64 0, .int .i64 held2, .int .i64 tk2, .int .i64 0, .int .i64 0, .int .i64 0, .bool false] 42)))
            generalize w4.alloc (.cells #[sv o, sv [], sv [], sv [], .int .i64 (-1), .int .i64 0, .int .i64 held2, .int .i64 tk2, .int .i64 0, .int .i64 0, .int .i64 0, .bool false] 42) = wE at *
            clear x0 x1 x2 x3 y0 y1 y2 y3 hz3 hz4 HG1 HF4 HAT4
            by_cases hle : m ≤ ls.length
            · have htk2 := HTK.out
              rw [if_pos hle] at htk2
              have hsl : ∀ W : World, (Instr.slice 64 (.slice a2 ls.length c2) none (some (.int .i64 m)) none).run Try.prog W = .ok (.slice a2 m c2) W := fun W => run_slice_to W 64 9 a2 ls.length c2 m i0 Try.underlying64 hi (by have := HC2.out; omega)
              have hlei : (m : Int) ≤ ls.length := by omega
              have hled : decide ((ls.length : Int) < m) = false := decide_eq_false (by omega)
              have hlen2 : ¬ (ls.length : Int) < m := by omega
              have hmn : min (m : Int) (ls.length : Int) = m := by omega
              have hj1 := joined_any a2 c2 (ls.take m) wE (by rw [List.map_take]; exact HATE.out.take m) (by rw [← HO.out]; omega)
              rw [List.length_take, Nat.min_eq_left hle, ← HO.out] at hj1
              have HJ1 := Lib.hid hj1; clear hj1
              by_cases hob : b.length < o.length
              · obtain rfl : tk2 = b.length := by omega
                have hobi : (b.length : Int) < o.length := by omega
                have hmn2 : min (o.length : Int) (b.length : Int) = b.length := by omega
                clear htk2 HTK
                go_upto_region 15 with (first
                  | (go_at_call 26; refine HJ1.out.mono ?_; rintro e5 w5 ⟨rfl, rfl⟩))
                obtain ⟨u1, u2, u3⟩ := HU.out _ (Fr.refl _ _)
                go_wp2_with (first
                  | (go_at_call 11; refine (awake_any _).mono ?_; rintro e9 w9 ⟨rfl, hf9⟩))
                go_ret
                exact ⟨rfl, KE.out.trans hf9⟩
              · obtain rfl : tk2 = o.length := by omega
                have hobi : ¬ (b.length : Int) < o.length := by omega
                have hobd : decide ((b.length : Int) < o.length) = false := decide_eq_false hobi
                have hmn2 : min (o.length : Int) (b.length : Int) = o.length := by omega
                clear htk2 HTK
                go_upto_region 15 with (first
                  | (go_at_call 26; refine HJ1.out.mono ?_; rintro e5 w5 ⟨rfl, rfl⟩))
                obtain ⟨u1, u2, u3⟩ := HU.out _ (Fr.refl _ _)
                go_wp2_with (first
                  | (go_at_call 11; refine (awake_any _).mono ?_; rintro e9 w9 ⟨rfl, hf9⟩))
                go_ret
                exact ⟨rfl, KE.out.trans hf9⟩
            · have htk2 := HTK.out
              rw [if_neg hle] at htk2
              subst htk2
              have hsl : ∀ W : World, (Instr.slice 64 (.slice a2 ls.length c2) none (some (.int .i64 ls.length)) none).run Try.prog W = .ok (.slice a2 ls.length c2) W := fun W => run_slice_to W 64 9 a2 ls.length c2 ls.length i0 Try.underlying64 hi (by have := HC2.out; omega)
              have hlei : ¬ (m : Int) ≤ ls.length := by omega
              have hled : decide ((m : Int) ≤ ls.length) = false := decide_eq_false hlei
              have hlen2 : (ls.length : Int) < m := by omega
              have hmn : min (m : Int) (ls.length : Int) = ls.length := by omega
              have ho2 := HO.out
              rw [List.take_of_length_le (by omega)] at ho2
              have hj1 := joined_any a2 c2 ls wE HATE.out (by rw [← ho2]; omega)
              rw [← ho2] at hj1
              have HJ1 := Lib.hid hj1; clear hj1 HTK ho2
              go_upto_region 15 with (first
                | (go_at_call 26; refine HJ1.out.mono ?_; rintro e5 w5 ⟨rfl, rfl⟩))
              obtain ⟨u1, u2, u3⟩ := HU.out _ (Fr.refl _ _)
              go_wp2_with (first
                | (go_at_call 11; refine (awake_any _).mono ?_; rintro e9 w9 ⟨rfl, hf9⟩))
              go_ret
              exact ⟨rfl, KE.out.trans hf9⟩
theorem walk_headTakes (w : World) (n : Int) (_ : (Lit.int .i64 n).wf = true) {v1 v2 : Value} (b : List UInt8) (hb : IsB w v1 b) (cuts : List Int) (hc : IsInts w v2 cuts) : Calls Try.prog 9 #[.int .i64 n, v1, v2] w (TruePost w) := by
  obtain ⟨ba, bc, rfl, hbc, _, hb, _⟩ := hb
  obtain ⟨ca, cc, rfl, hca⟩ := hc
  exact core_headTakes w n ba bc b ca cc cuts hb hbc hca
end Go.Proofs.Ytppgojcfgdooiaa
