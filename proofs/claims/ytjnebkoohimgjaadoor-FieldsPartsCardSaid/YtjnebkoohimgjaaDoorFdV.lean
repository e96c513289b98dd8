import Derived.Test.YtjnebkoohimgjaaDoorFdU
import Derived.Deep.Cut
import Derived.Deep.DeepCutAuto
/- FieldsParts, walked. -/
namespace Go.Proofs.YtjnebkoohimgjaaDoor
open Go.RowKit

theorem fd_says (n : Int) (c : UInt8) (b : List UInt8) (h : rlong b = false) : saysM n [c] [] b true = (fdAll c n.toNat (rlines b true), -1, 0) := by
  unfold saysM fdAll
  rw [on_says (fdF (byM [c]) n.toNat) () (fdG (byM [c]) n.toNat) (fun _ => rfl), h]; rfl
theorem fd_fits (n : Nat) (c : UInt8) (hc : c ≠ 10) (h1 : 1 ≤ n) (h2 : n ≤ 65535) : chkR 7 (n : Int) [c] [] = 0 ∧ fchk 7 7 (n : Int) [c] [] = 0 := by
  have e : chkR 7 (n : Int) [c] [] = 0 := by
    unfold chkR rowR holdsR oneB withinB
    simp [hc]; omega
  exact ⟨e, by unfold fchk; rw [(agree 7 (n : Int) [c] [] (by omega)).1, e]; simp⟩
theorem at_nowhere {wB wr : World} {g k : Nat} {c : UInt8} {ls xs : List (List UInt8)} {a : Option Addr} (h : At wB a (xs.map sv)) (hg : CI wB g c ls k wr) (hx : ∀ o v, wB.cell? ⟨g, o, none⟩ = some v → ∀ x, v ≠ sv x) : At wr a (xs.map sv) := by
  refine h.fr hg.fr fun ga off e _ i hi e1 => ?_
  subst e1
  obtain ⟨g', off', e', hr⟩ := h (by omega)
  rw [e] at e'; injection e' with e'; injection e' with e2 e3; subst e2; subst e3
  have hi' : i < xs.length := by simpa using hi
  exact hx _ _ (hr.get i (sv xs[i]) (by simp [hi'])) _ rfl
theorem zero_cells (w2 : World) : ∀ o v, (w2.alloc (.cells #[.slice none 0 0, .slice none 0 0, .slice none 0 0, .slice none 0 0, .slice none 0 0, .slice none 0 0, .slice none 0 0, .slice none 0 0, .slice none 0 0, .slice none 0 0, .slice none 0 0, .slice none 0 0, .slice none 0 0, .slice none 0 0, .slice none 0 0, .slice none 0 0] 52)).cell? ⟨w2.heap.size, o, none⟩ = some v → ∀ x, v ≠ sv x := by
  intro o v h x e
  rw [cell_block (heap_alloc_new w2 _)] at h
  by_cases ho : o < 16
  · rw [col_get (fun _ => .slice none 0 0) o ho] at h
    rw [e] at h; cases h
  · rw [Array.getElem?_eq_none (by simp; omega)] at h
    cases h
theorem cols_cell {wr W : World} {g j q : Nat} {f : Nat → Value} {t : TypeId} {c : UInt8} {ls : List (List UInt8)} (h : ∃ a cp, f j = .slice a ls.length cp ∧ At wr a ((ls.map (lineM c (2 ^ j))).map sv))
    (hrow : W.heap[g]? = some (.cells #[f 0, f 1, f 2, f 3, f 4, f 5, f 6, f 7, f 8, f 9, f 10, f 11, f 12, f 13, f 14, f 15] t (0, 0))) (F : Fr No wr W) (hj : j < 16) (hq : q < ls.length) :
    ∃ gj oj cp, W.cell? ⟨g, j, none⟩ = some (.slice (some ⟨gj, oj, none⟩) ls.length cp) ∧ W.cell? ⟨gj, oj + q, none⟩ = some (sv (lineM c (2 ^ j) ls[q])) := by
  obtain ⟨a, cp, e, hat⟩ := h
  obtain ⟨gj, oj, rfl, hr⟩ := (at_no hat F) (by simp; omega)
  exact ⟨gj, oj, cp, by rw [cell_block hrow, col_get f j hj, e], hr.get q _ (by simp [hq])⟩
theorem one_conv (c : UInt8) (W : World) (g : Nat) (hg : g = W.heap.size) : (convert 22 9 (.slice (some ⟨g, 0, none⟩) 1 1)).run Tryd.prog (W.alloc (.cells #[.int .u8 c.toNat] 5)).drew = .ok (sv [c]) (W.alloc (.cells #[.int .u8 c.toNat] 5)).drew := by
  subst hg
  have h0 : At (W.alloc (.cells #[.int .u8 c.toNat] 5)) (some ⟨W.heap.size, 0, none⟩) ([c].map bv) := fun _ => ⟨W.heap.size, 0, rfl, row_at W #[.int .u8 c.toNat] _ rfl _ rfl 5 (0, 0)⟩
  exact conv_at (P := Tryd.prog) (cap := 1) (at_no h0 (Fr.refl _ _).drew) (src := 22) (dst := 9) Tryd.underlying22 Tryd.underlying5 Tryd.underlying9
theorem join_take_le (c : UInt8) (s : List UInt8) (k : Nat) : (Lib.join ((fldM c s).take k) [c]).length ≤ s.length := by
  have h1 := join_le c ((fldM c s).take k)
  have h2 := fld_wt c s
  have h3 := wt_app ((fldM c s).take k) ((fldM c s).drop k)
  rw [List.take_append_drop] at h3
  omega
theorem str_three (a b : List UInt8) (c : UInt8) : Value.string ((⟨a.toArray⟩ : ByteArray) ++ ⟨#[c]⟩ ++ ⟨b.toArray⟩) = sv (a ++ [c] ++ b) := by
  congr 1
theorem range_of_row {W : World} {g : Nat} {cs : List Value} {t : TypeId} {fr : Nat × Nat} (hrow : W.heap[g]? = some (.cells cs.toArray t fr)) : W.rangeAt g 0 cs := fun j v hv => by
  rw [Nat.zero_add, cell_block hrow]; simpa using hv
theorem pow_wrap : ∀ k, k < 16 → wrap64 ((2 : Int) ^ k) = ((2 ^ k : Nat) : Int)
  | 0, _ => by kernel_rfl
  | 1, _ => by kernel_rfl
  | 2, _ => by kernel_rfl
  | 3, _ => by kernel_rfl
  | 4, _ => by kernel_rfl
  | 5, _ => by kernel_rfl
  | 6, _ => by kernel_rfl
  | 7, _ => by kernel_rfl
  | 8, _ => by kernel_rfl
  | 9, _ => by kernel_rfl
  | 10, _ => by kernel_rfl
  | 11, _ => by kernel_rfl
  | 12, _ => by kernel_rfl
  | 13, _ => by kernel_rfl
  | 14, _ => by kernel_rfl
  | 15, _ => by kernel_rfl
  | n + 16, h => absurd h (by omega)
theorem new_one (W : World) (Q : Obj) (v : Value) (t : TypeId) : ((W.alloc Q).alloc (.cells #[v] t)).cell? ⟨W.heap.size + 1, 0, none⟩ = some v := by
  simp
theorem bytes_new (w5 : World) (G : Obj) (o : List UInt8) : At (Lib.bytesWorld (w5.alloc G) 5 ⟨o.toArray⟩) (some ⟨w5.heap.size + 1, 0, none⟩) (o.map bv) := by
  have := bytes_at (w5.alloc G) o
  simpa using this
theorem fdAll_small (c : UInt8) (n : Nat) (ls : List (List UInt8)) (b : Nat) (h : (joinM ls).length ≤ b) : (fdAll c n ls).length ≤ b := Nat.le_trans (fdAll_len c n ls) h
theorem pow_shl : ∀ k, k < 16 → (1 ≤ 2 ^ k ∧ 2 ^ k ≤ 65535) := by decide
set_option maxHeartbeats 16000000 in
set_option maxRecDepth 100000 in
theorem core_fieldsParts (w : World) (hG : GM w) (c : UInt8) (ba : Option Addr) (bc : Nat) (b : List UInt8) (ca : Option Addr) (cc : Nat) (cuts : List Int)
    (hb : At w ba (b.map bv)) (hbc : b.length ≤ bc) (hc : At w ca (cuts.map iv)) :
    Calls Tryd.prog 4 #[.int .u8 c.toNat, .slice ba b.length bc, .slice ca cuts.length cc] w (BarePost w) := by
  have HG0 := Lib.hid hG; have HB := Lib.hid hb; have HC := Lib.hid hc
  clear hb hc hG
  have hhv0 := fun (W : World) (g : Nat) (hr : Row W g 0 [.slice ca cuts.length cc]) => heavy_any 7 65535 (some ⟨w.heap.size, 0, none⟩) none none (some ⟨g, 0, none⟩) [c] [] 1 0 0 1 [] [(ca, cuts.length, cc)] W (At.nil _ _) (fun _ => ⟨g, 0, rfl, hr⟩) (by simp)
  simp only [List.length_nil, List.length_cons, Nat.zero_add] at hhv0
  obtain ⟨hv, hhv⟩ : ∃ x, x = heavyB [c] [] [] [(ca, cuts.length, cc)] := ⟨_, rfl⟩
  rw [← hhv] at hhv0
  have HHV := Lib.hid hhv0
  have HHD := Lib.hid hhv.symm
  clear hhv0 hhv
  have HW0 := Lib.hid (((Fr.refl No w).alloc (.cells #[.int .u8 c.toNat] 5)).alloc (.cells #[.int .i64 7, .int .i64 65535, .slice (some ⟨w.heap.size, 0, none⟩) 1 1, .slice none 0 0] 24))
  have HBOX := Lib.hid (fun (W : World) (f : Fr No ((w.alloc (.cells #[.int .u8 c.toNat] 5)).alloc (.cells #[.int .i64 7, .int .i64 65535, .slice (some ⟨w.heap.size, 0, none⟩) 1 1, .slice none 0 0] 24)) W) => (show (W.cell? ⟨w.heap.size + 1, 0, none⟩ = some (.int .i64 7) ∧ W.cell? ⟨w.heap.size + 1, 1, none⟩ = some (.int .i64 65535) ∧ W.cell? ⟨w.heap.size + 1, 2, none⟩ = some (.slice (some ⟨w.heap.size, 0, none⟩) 1 1) ∧ W.cell? ⟨w.heap.size + 1, 3, none⟩ = some (.slice none 0 0)) ∧ At W (some ⟨w.heap.size, 0, none⟩) ([c].map bv) from by
    have x1 := (box_at f).1
    have e : (w.alloc (.cells #[.int .u8 c.toNat] 5)).heap.size = w.heap.size + 1 := by simp
    rw [e] at x1
    exact ⟨⟨x1 0, x1 1, x1 2, x1 3⟩, at_no (fun _ => ⟨w.heap.size, 0, rfl, row_at w #[.int .u8 c.toNat] _ rfl _ rfl 5 (0, 0)⟩) (((Fr.refl No _).alloc _).trans f)⟩))
  cases hv with
  | true =>
    go_enter Tryd.func4, Tryd.ntmps4
    go_wp2_with (first
      | (go_at_call 9; refine (HHV.out _ (w.heap.size + 1 + 1) (row_at _ #[.slice ca cuts.length cc] _ rfl _ (by simp) 28 (0, 0))).mono ?_; rintro e1 w1 ⟨rfl, hf1⟩; have HF1 := Lib.hid ((HW0.out.alloc _).trans hf1); clear hf1)
      | (go_at_call 11; refine (awake_any _ (HG0.out.no HF1.out)).mono ?_; rintro e9 w9 ⟨rfl, hf9⟩))
    go_ret
    exact ⟨rfl, HF1.out.trans hf9⟩
  | false =>
    have hcl : cuts.length ≤ 100000 := by
      have := HHD.out
      simp only [heavyB, decide_eq_false_iff_not, not_or] at this
      obtain ⟨_, _, _, _, h5⟩ := this
      have : ¬ 3000 < cuts.length := fun h => h5 ⟨(ca, cuts.length, cc), by simp, h⟩
      omega
    by_cases hbl : 1500 < b.length
    · have hbi : (1500 : Int) < b.length := by omega
      go_enter Tryd.func4, Tryd.ntmps4
      go_wp2_with (first
        | (go_at_call 9; refine (HHV.out _ (w.heap.size + 1 + 1) (row_at _ #[.slice ca cuts.length cc] _ rfl _ (by simp) 28 (0, 0))).mono ?_; rintro e1 w1 ⟨rfl, hf1⟩; have HF1 := Lib.hid ((HW0.out.alloc _).trans hf1); clear hf1)
        | (go_at_call 11; refine (awake_any _ (HG0.out.no HF1.out)).mono ?_; rintro e9 w9 ⟨rfl, hf9⟩))
      go_ret
      exact ⟨rfl, HF1.out.trans hf9⟩
    · have hbi : decide ((1500 : Int) < b.length) = false := decide_eq_false (by omega)
      by_cases h10 : c = 10
      · subst h10
        go_enter Tryd.func4, Tryd.ntmps4
        go_wp2_with (first
          | (go_at_call 9; refine (HHV.out _ (w.heap.size + 1 + 1) (row_at _ #[.slice ca cuts.length cc] _ rfl _ (by simp) 28 (0, 0))).mono ?_; rintro e1 w1 ⟨rfl, hf1⟩; have HF1 := Lib.hid ((HW0.out.alloc _).trans hf1); clear hf1)
          | (go_at_call 11; refine (awake_any _ (HG0.out.no HF1.out)).mono ?_; rintro e9 w9 ⟨rfl, hf9⟩))
        go_ret
        exact ⟨rfl, HF1.out.trans hf9⟩
      · have h10i : ((c.toNat : Int) == 10) = false := beq_eq_false_iff_ne.2 fun e => h10 (UInt8.toNat_inj.1 (show c.toNat = (10 : UInt8).toNat from by have : (10 : UInt8).toNat = 10 := rfl; omega))
        have HLN := Lib.hid (fun (W : World) (hW : Fr No w W) => lines_any ba bc b W (at_no HB.out hW) (by omega) hbc)
        cases hlg : rlong b with
        | true =>
          have hall : rdAll b true = false := by unfold rdAll; rw [hlg]; rfl
          rw [hall] at HLN
          go_enter Tryd.func4, Tryd.ntmps4
          go_wp2_with (first
            | (go_at_call 9; refine (HHV.out _ (w.heap.size + 1 + 1) (row_at _ #[.slice ca cuts.length cc] _ rfl _ (by simp) 28 (0, 0))).mono ?_; rintro e1 w1 ⟨rfl, hf1⟩; have HF1 := Lib.hid ((HW0.out.alloc _).trans hf1); clear hf1)
            | (go_at_call 16; refine (HLN.out _ HF1.out).mono ?_; rintro e2 w2 ⟨a2, c2, rfl, -, hf2, -⟩; have HF2 := Lib.hid (HF1.out.trans hf2); clear hf2)
            | (go_at_call 11; refine (awake_any _ (HG0.out.no HF2.out)).mono ?_; rintro e9 w9 ⟨rfl, hf9⟩))
          go_ret
          exact ⟨rfl, HF2.out.trans hf9⟩
        | false =>
          have hall : rdAll b true = true := by unfold rdAll; rw [hlg]; rfl
          rw [hall] at HLN
          have hfine := rlines_fine b
          have hjr := jn_rlines b true
          have hjl := jn_len (rlines b true)
          have HSAY := Lib.hid (fun (n : Int) => fd_says n c b hlg)
          have HTOLD := Lib.hid (fun (n : Nat) (h1 : 1 ≤ n) (h2 : n ≤ 65535) (W : World) (hW : Fr No w W) (hA : At W (some ⟨w.heap.size, 0, none⟩) ([c].map bv)) (gi : Nat) (hin : W.cell? ⟨gi, 0, none⟩ = some (.slice ba b.length bc)) =>
            told_fine (n : Int) (some ⟨w.heap.size, 0, none⟩) none [c] [] 1 0 W (HG0.out.no hW) hA (At.nil _ _) (by simp) (by simp) (fd_fits n c h10 h1 h2).1 (fd_fits n c h10 h1 h2).2 ca cc cuts (at_no HC.out hW) hcl gi 1 ba bc b hin (at_no HB.out hW) (by omega) hbc _ (fd_says n c b hlg))
          simp only [List.length_nil, List.length_cons, Nat.zero_add, Int.toNat_natCast] at HTOLD
          clear hall hlg
          generalize rlines b true = ls at *
          have HFN := Lib.hid hfine; clear hfine
          go_enter Tryd.func4, Tryd.ntmps4
          go_upto_region 8 with (first
            | (go_at_call 9; refine (HHV.out _ (w.heap.size + 1 + 1) (row_at _ #[.slice ca cuts.length cc] _ rfl _ (by simp) 28 (0, 0))).mono ?_; rintro e1 w1 ⟨rfl, hf1⟩; have HF1 := Lib.hid ((HW0.out.alloc _).trans hf1); have HX1 := Lib.hid (((Fr.refl No _).alloc _).trans hf1); clear hf1)
            | (go_at_call 16; refine (HLN.out _ HF1.out).mono ?_; rintro e2 w2 ⟨a2, c2, rfl, hat2, hf2, -⟩; have HF2 := Lib.hid (HF1.out.trans hf2); have HX2 := Lib.hid (HX1.out.trans hf2); have HAT := Lib.hid hat2; clear hf2 hat2))
          have hsB : (( w.alloc (.cells #[.int .u8 c.toNat] 5)).alloc (.cells #[.int .i64 7, .int .i64 65535, .slice (some ⟨w.heap.size, 0, none⟩) 1 1, .slice none 0 0] 24)).heap.size ≤ w2.heap.size := HX2.out.size
          have hsW : w.heap.size + 2 ≤ w2.heap.size := by simpa using hsB
          have HXB := Lib.hid (HX2.out.alloc (.cells #[.slice none 0 0, .slice none 0 0, .slice none 0 0, .slice none 0 0, .slice none 0 0, .slice none 0 0, .slice none 0 0, .slice none 0 0, .slice none 0 0, .slice none 0 0, .slice none 0 0, .slice none 0 0, .slice none 0 0, .slice none 0 0, .slice none 0 0, .slice none 0 0] 52))
          have HFB := Lib.hid (HF2.out.alloc (.cells #[.slice none 0 0, .slice none 0 0, .slice none 0 0, .slice none 0 0, .slice none 0 0, .slice none 0 0, .slice none 0 0, .slice none 0 0, .slice none 0 0, .slice none 0 0, .slice none 0 0, .slice none 0 0, .slice none 0 0, .slice none 0 0, .slice none 0 0, .slice none 0 0] 52))
          have HATB := Lib.hid (at_no HAT.out ((Fr.refl No w2).alloc (.cells #[.slice none 0 0, .slice none 0 0, .slice none 0 0, .slice none 0 0, .slice none 0 0, .slice none 0 0, .slice none 0 0, .slice none 0 0, .slice none 0 0, .slice none 0 0, .slice none 0 0, .slice none 0 0, .slice none 0 0, .slice none 0 0, .slice none 0 0, .slice none 0 0] 52)))
          have HCI0 := Lib.hid (ci_start w2 c ls)
          have hgB : w2.heap.size < (w2.alloc (.cells #[.slice none 0 0, .slice none 0 0, .slice none 0 0, .slice none 0 0, .slice none 0 0, .slice none 0 0, .slice none 0 0, .slice none 0 0, .slice none 0 0, .slice none 0 0, .slice none 0 0, .slice none 0 0, .slice none 0 0, .slice none 0 0, .slice none 0 0, .slice none 0 0] 52)).heap.size := by simp
          have HNS := Lib.hid (zero_cells w2)
          clear HAT HX2 HF2 HX1 HF1
          generalize w2.alloc (.cells #[.slice none 0 0, .slice none 0 0, .slice none 0 0, .slice none 0 0, .slice none 0 0, .slice none 0 0, .slice none 0 0, .slice none 0 0, .slice none 0 0, .slice none 0 0, .slice none 0 0, .slice none 0 0, .slice none 0 0, .slice none 0 0, .slice none 0 0, .slice none 0 0] 52) = wB at *
          generalize w2.heap.size = g at *
          clear hsB
          go_wp2_with fail
          go_loopw [11] (fun i wr => ∃ k : Nat, k ≤ 16 ∧ i = .int .i64 k ∧ Hid (CI wB g c ls k wr)) (fun i _ => 16 - (intOf i).toNat)
          case atStart => exact ⟨0, by omega, rfl, HCI0⟩
          case round =>
            obtain ⟨k, hk, rfl, HCI⟩ := hrel
            have KW := Lib.hid (HFB.out.step HCI.out.fr (fun b o hb e => by omega))
            have KX := Lib.hid (HXB.out.step HCI.out.fr (fun b o hb e => by simp at hb; omega))
            obtain ⟨⟨y0, y1, y2, y3⟩, hA⟩ := HBOX.out _ KX.out
            by_cases hlt : k < 16
            · have hki : (k : Int) < 16 := by omega
              obtain ⟨p1, p2⟩ := pow_shl k hlt
              have HTK := Lib.hid (HTOLD.out (2 ^ k) p1 p2)
              have HA := Lib.hid hA; clear hA
              have hw := pow_wrap k hlt
              have HOJ := Lib.hid (fdAll_join c (2 ^ k) ls)
              have HFC := Lib.hid (show ∀ s ∈ ls.map (lineM c (2 ^ k)), fineL s from fun s hs => by
                obtain ⟨x, hx, rfl⟩ := List.mem_map.1 hs
                exact lineM_fine h10 _ (HFN.out x hx))
              have HCN := Lib.hid (fun (w6 : World) (f6 : Fr No wr w6) (a : Option Addr) (cp : Nat) (hat : At w6 a ((ls.map (lineM c (2 ^ k))).map sv)) => HCI.out.next f6 hlt a cp hat)
              have hol := fdAll_small c (2 ^ k) ls _ hjr
              obtain ⟨col, hcol⟩ : ∃ x, x = ls.map (lineM c (2 ^ k)) := ⟨_, rfl⟩
              have HCL := Lib.hid (show col.length = ls.length from by rw [hcol]; simp)
              rw [← hcol] at HOJ HFC HCN
              generalize fdAll c (2 ^ k) ls = o at *
              generalize 2 ^ k = m at *
              clear hcol p1 p2
              have hcv := bytes_conv o
              go_wp2_with (first
                | (go_at_call 17; have HH := HTK.out ((wr.alloc (.cells #[.int .i64 7, .int .i64 m, .slice (some ⟨w.heap.size, 0, none⟩) 1 1, .slice none 0 0] 24)).alloc (.cells #[.slice ba b.length bc] 22)) ((KW.out.alloc (.cells #[.int .i64 7, .int .i64 m, .slice (some ⟨w.heap.size, 0, none⟩) 1 1, .slice none 0 0] 24)).alloc (.cells #[.slice ba b.length bc] 22)) (at_no HA.out (((Fr.refl No wr).alloc (.cells #[.int .i64 7, .int .i64 m, .slice (some ⟨w.heap.size, 0, none⟩) 1 1, .slice none 0 0] 24)).alloc (.cells #[.slice ba b.length bc] 22))) (wr.heap.size + 1) (new_one wr _ _ _)
                   refine HH.mono ?_; rintro e5 w5 ⟨held, taken, rfl, hf5⟩
                   have HX5 := Lib.hid ((((Fr.refl No wr).alloc (.cells #[.int .i64 7, .int .i64 m, .slice (some ⟨w.heap.size, 0, none⟩) 1 1, .slice none 0 0] 24)).alloc (.cells #[.slice ba b.length bc] 22)).trans hf5)
                   clear hf5 HH
                   dsimp only [gotC])
                | (go_at_call 16; refine (lines_out _ _ o col ls.length (Lib.bytesWorld (w5.alloc (.cells #[sv o, sv [], sv [], sv [], .int .i64 (-1), .int .i64 0, .int .i64 held, .int .i64 taken, .int .i64 0, .int .i64 0, .int .i64 0, .bool false] 45)) 5 ⟨o.toArray⟩) (bytes_new w5 (.cells #[sv o, sv [], sv [], sv [], .int .i64 (-1), .int .i64 0, .int .i64 held, .int .i64 taken, .int .i64 0, .int .i64 0, .int .i64 0, .bool false] 45) o) HOJ.out HFC.out HCL.out (by omega) (grownCap_ge _ _ _ _)).mono ?_
                   rintro e6 w6 ⟨a6, c6, rfl, hat6, hf6⟩
                   have HX6 := Lib.hid (((HX5.out.alloc (.cells #[sv o, sv [], sv [], sv [], .int .i64 (-1), .int .i64 0, .int .i64 held, .int .i64 taken, .int .i64 0, .int .i64 0, .int .i64 0, .bool false] 45)).trans (bytes_fr (w5.alloc (.cells #[sv o, sv [], sv [], sv [], .int .i64 (-1), .int .i64 0, .int .i64 held, .int .i64 taken, .int .i64 0, .int .i64 0, .int .i64 0, .bool false] 45)) ⟨o.toArray⟩)).trans hf6)
                   have HAT6 := Lib.hid hat6
                   obtain ⟨v6, k1, k2⟩ := HCI.out.cell HX6.out k hlt
                   clear hf6 hat6))
              go_roundw
              case rel => exact ⟨k + 1, by omega, by go_num, Lib.hid (HCN.out _ HX6.out _ _ HAT6.out)⟩
              case measure => simp [intOf]; omega
            · obtain rfl : k = 16 := by omega
              have HA := Lib.hid hA; clear hA
              have hta := HTOLD.out 65535 (by omega) (by omega)
              rw [show ((65535 : Nat) : Int) = 65535 from rfl] at hta
              have HTA := Lib.hid hta; clear hta
              have HOJ := Lib.hid (fdAll_join c 65535 ls)
              have HFC := Lib.hid (show ∀ s ∈ ls.map (lineM c 65535), fineL s from fun s hs => by
                obtain ⟨x, hx, rfl⟩ := List.mem_map.1 hs
                exact lineM_fine h10 _ (HFN.out x hx))
              have hol := fdAll_small c 65535 ls _ hjr
              obtain ⟨f, hrow, hs, hold⟩ := HCI.out.row
              have HROW := Lib.hid (fun (W : World) (F : Fr No wr W) => (F.block g (heap_lt hrow) fun _ x => x).trans hrow)
              have HOLD := Lib.hid hold; have HATR := Lib.hid (at_nowhere HATB.out HCI.out HNS.out)
              clear hrow hold hs HCI HTOLD HLN HCI0
              obtain ⟨col, hcol⟩ : ∃ x, x = ls.map (lineM c 65535) := ⟨_, rfl⟩
              have HCL := Lib.hid (show col.length = ls.length from by rw [hcol]; simp)
              have HCOL := Lib.hid hcol
              rw [← hcol] at HOJ HFC
              generalize fdAll c 65535 ls = o at *
              clear hcol
              have hcv := bytes_conv o
              by_cases hpos : 0 < ls.length
              · have hposi : (0 : Int) < ls.length := by omega
                go_upto_region 22 with (first
                  | (go_at_call 17; have HH := HTA.out (wr.alloc (.cells #[.slice ba b.length bc] 22)) (KW.out.alloc (.cells #[.slice ba b.length bc] 22)) (at_no HA.out ((Fr.refl No wr).alloc (.cells #[.slice ba b.length bc] 22))) wr.heap.size (by simp)
                     refine HH.mono ?_; rintro e5 w5 ⟨held, taken, rfl, hf5⟩
                     have HX5 := Lib.hid (((Fr.refl No wr).alloc (.cells #[.slice ba b.length bc] 22)).trans hf5)
                     clear hf5 HH
                     dsimp only [gotC])
                  | (go_at_call 16; refine (lines_out _ _ o col ls.length (Lib.bytesWorld (w5.alloc (.cells #[sv o, sv [], sv [], sv [], .int .i64 (-1), .int .i64 0, .int .i64 held, .int .i64 taken, .int .i64 0, .int .i64 0, .int .i64 0, .bool false] 45)) 5 ⟨o.toArray⟩) (bytes_new w5 (.cells #[sv o, sv [], sv [], sv [], .int .i64 (-1), .int .i64 0, .int .i64 held, .int .i64 taken, .int .i64 0, .int .i64 0, .int .i64 0, .bool false] 45) o) HOJ.out HFC.out HCL.out (by omega) (grownCap_ge _ _ _ _)).mono ?_
                     rintro e6 w6 ⟨a6, c6, rfl, hat6, hf6⟩
                     have HX6 := Lib.hid (((HX5.out.alloc (.cells #[sv o, sv [], sv [], sv [], .int .i64 (-1), .int .i64 0, .int .i64 held, .int .i64 taken, .int .i64 0, .int .i64 0, .int .i64 0, .bool false] 45)).trans (bytes_fr (w5.alloc (.cells #[sv o, sv [], sv [], sv [], .int .i64 (-1), .int .i64 0, .int .i64 held, .int .i64 taken, .int .i64 0, .int .i64 0, .int .i64 0, .bool false] 45)) ⟨o.toArray⟩)).trans hf6)
                     have HAT6 := Lib.hid hat6
                     clear hf6 hat6))
                go_wp2_with fail
                go_loopw [21] (fun i W => ∃ q : Nat, q ≤ ls.length ∧ i = .int .i64 q ∧ Hid (Fr No w6 W)) (fun i _ => ls.length - (intOf i).toNat)
                case atStart => exact ⟨0, by omega, rfl, Lib.hid (Fr.refl _ _)⟩
                case round =>
                  obtain ⟨q, hq, rfl, HQ⟩ := hrel
                  by_cases hlq : q < ls.length
                  · have hqi : (q : Int) < ls.length := by omega
                    obtain ⟨ga, oa, rfl, hr1⟩ := (at_no HATR.out HX6.out) (by simp; omega)
                    obtain ⟨gw, ow, rfl, hr2⟩ := HAT6.out (by simp; have := HCL.out; omega)
                    have HC1 := Lib.hid (fun (W' : World) (F : Fr No w6 W') => (hr1.fr F (fun _ _ x => x)).get q (sv ls[q]) (by simp [hlq]))
                    have HC2 := Lib.hid (fun (W' : World) (F : Fr No w6 W') => (hr2.fr F (fun _ _ x => x)).get q (sv (lineM c 65535 ls[q])) (by rw [HCOL.out]; simp [hlq]))
                    have hs64 := HFN.out ls[q] (List.getElem_mem hlq)
                    have HCE := Lib.hid (fun (j : Nat) (hj : j < 16) (W' : World) (F : Fr No w6 W') => cols_cell (HOLD.out j hj) (HROW.out _ (HX6.out.trans F)) (HX6.out.trans F) hj hlq)
                    have HBR := Lib.hid (fun (W' : World) (F : Fr No w6 W') (hno : ∀ k, k < 16 → c ∉ lineM c (2 ^ k) ls[q]) =>
                      bare_any c q ls.length f (fun k => ls.map (lineM c (2 ^ k))) W' (by omega) hlq (fun k _ => by simp) (fun k hk => by
                        obtain ⟨a, cp, e, h⟩ := HOLD.out k hk
                        exact ⟨a, cp, e, at_no h (HX6.out.trans F)⟩) (fun k hk x hx => by
                        have e : x = lineM c (2 ^ k) ls[q] := by simp [hlq] at hx; exact hx.symm
                        subst e
                        exact ⟨by have := line_len c (2 ^ k) ls[q]; have := hs64.1; omega, hno k hk⟩))
                    have hc1 := HC1.out _ HQ.out
                    generalize ls[q] = s at *
                    obtain ⟨h64, hno⟩ := hs64
                    clear hr1 hr2 hno
                    go_wp2_with fail
                    go_loop [22, 23] (fun n v => ∃ k : Nat, k ≤ s.length ∧ v = .int .i64 k ∧ n = .int .i64 ((fldM c (s.take k)).length : Nat)) (fun _ v => s.length - (intOf v).toNat)
                    case atStart => exact ⟨0, by omega, rfl, rfl⟩
                    case round =>
                      obtain ⟨k, hk, rfl, rfl⟩ := hrel
                      by_cases hks : k < s.length
                      · have hki : (k : Int) < s.length := by omega
                        have hfn := fld_count_next c s k hks
                        have hfl := fld_len c (s.take k)
                        have htl : (s.take k).length ≤ k := by simp; omega
                        generalize (fldM c (s.take k)).length = m at *
                        have HFX := Lib.hid hfn; clear hfn
                        by_cases hcx : s[k] = c
                        · have hix : ∀ W : World, (Instr.index 9 (sv s) (.int .i64 k)).run Tryd.prog W = .ok (.int .u8 c.toNat) W := fun W => by
                            refine (run_index_string W 9 ⟨s.toArray⟩ .i64 (k : Int) Tryd.underlying9).trans ?_
                            rw [dif_pos ⟨by omega, by rw [size_mk]; omega⟩, ← hcx]
                            rfl
                          go_wp2
                          go_round
                          case rel => exact ⟨k + 1, by omega, by go_num, by rw [HFX.out, if_pos hcx]; go_num⟩
                          case measure => simp [intOf]; omega
                        · have hne : ((s[k].toNat : Int) == (c.toNat : Int)) = false := by
                            refine beq_eq_false_iff_ne.2 fun e => hcx ?_
                            exact UInt8.toNat_inj.1 (by omega)
                          have hix : ∀ W : World, (Instr.index 9 (sv s) (.int .i64 k)).run Tryd.prog W = .ok (.int .u8 s[k].toNat) W := fun W => by
                            refine (run_index_string W 9 ⟨s.toArray⟩ .i64 (k : Int) Tryd.underlying9).trans ?_
                            rw [dif_pos ⟨by omega, by rw [size_mk]; omega⟩]
                            rfl
                          go_wp2
                          go_round
                          case rel => exact ⟨k + 1, by omega, by go_num, by rw [HFX.out, if_neg hcx]; go_num⟩
                          case measure => simp [intOf]; omega
                      · obtain rfl : k = s.length := by omega
                        have et : s.take s.length = s := List.take_length
                        rw [et]
                        clear et
                        have hF1 := fld_pos c s
                        have hFl := fld_len c s
                        have HJN := Lib.hid (join_fld c s)
                        have HL1 := Lib.hid (line_first (c := c) (s := s))
                        have HLK := Lib.hid (fun (k : Nat) (hk : k < 16) (h : (fldM c s).length ≠ 1) => line_one (c := c) hk h)
                        have HLA := Lib.hid (line_all (c := c) (s := s))
                        have HSUB := Lib.hid (fld_sub c s)
                        have HJL := Lib.hid (join_take_le c s)
                        obtain ⟨g0, o0, cp0, d1, d2⟩ := HCE.out 0 (by omega) _ HQ.out
                        rw [Nat.pow_zero, HL1.out] at d2
                        generalize fldM c s = F at *
                        have HST := Lib.hid (show sv (F.getD 0 []) = sv (Lib.join (F.take 1) [c]) from by
                          match F, hF1 with
                          | x :: l, _ => rw [List.take_succ_cons, List.take_zero, join_single]; rfl)
                        generalize F.getD 0 [] = x0 at *
                        go_wp2_with fail
                        go_loopw [24, 25] (fun sx v wr => ∃ k : Nat, 1 ≤ k ∧ k ≤ F.length ∧ k ≤ 16 ∧ v = .int .i64 k ∧ sx = sv (Lib.join (F.take k) [c]) ∧ Hid (Fr No w6 wr)) (fun _ v _ => 16 - (intOf v).toNat)
                        case atStart => exact ⟨1, by omega, hF1, by omega, rfl, HST.out, HQ⟩
                        case round =>
                          obtain ⟨k, hk1, hkF, hk16, rfl, rfl, HK⟩ := hrel
                          by_cases hin : k < F.length ∧ k < 16
                          · obtain ⟨hi1, hi2⟩ := hin
                            have hii1 : (k : Int) < F.length := by omega
                            have hii2 : (k : Int) < 16 := by omega
                            obtain ⟨gk, ok, cpk, t1, t2⟩ := HCE.out k hi2 _ HK.out
                            rw [HLK.out k hi2 (by omega), List.getD_eq_getElem?_getD, List.getElem?_eq_getElem hi1, Option.getD_some] at t2
                            have t3 := cell_alloc t1 (.cells #[.int .u8 c.toNat] 5)
                            have t4 := cell_alloc t2 (.cells #[.int .u8 c.toNat] 5)
                            have HNX := Lib.hid (join_next c F k hk1 hi1)
                            have hz3 := HJL.out (k + 1)
                            rw [HNX.out] at hz3
                            generalize F[k] = y at *
                            generalize Lib.join (F.take k) [c] = z at *
                            have z1 : ¬ 9223372036854775807 < z.length + 1 := by simp at hz3; omega
                            have z2 : ¬ 9223372036854775807 < z.length + 1 + y.length := by simp at hz3; omega
                            clear hz3
                            have hcv2 := one_conv c
                            have HS3 := Lib.hid (str_three z y c)
                            go_wp2_with fail
                            go_region
                            go_wp2
                            go_roundw
                            case rel => exact ⟨k + 1, by omega, by omega, by omega, by go_num, by rw [HNX.out, ← HS3.out], Lib.hid (HK.out.alloc _).drew⟩
                            case measure => simp [intOf]; omega
                          · have HNB0 := Lib.hid (fun (h : F.length ≠ 1) (j : Nat) (hj : j < 16) => (show c ∉ lineM c (2 ^ j) s from fun hm => by
                              rw [HLK.out j hj h, List.getD_eq_getElem?_getD] at hm
                              cases hx : F[j]? with
                              | none => rw [hx] at hm; cases hm
                              | some x => rw [hx] at hm; exact (HSUB.out x (List.mem_of_getElem? hx) c hm).2 rfl))
                            by_cases hb16 : F.length ≤ 16
                            · obtain rfl : k = F.length := by omega
                              have hbi16 : (F.length : Int) ≤ 16 := by omega
                              rw [List.take_length, HJN.out]
                              have HS36 := Lib.hid (fun (W' : World) (F' : Fr No w6 W') => (⟨HC1.out _ F', (HC2.out _ F').trans (by rw [HLA.out hb16]), HROW.out _ (HX6.out.trans F')⟩ : W'.cell? ⟨ga, oa + q, none⟩ = some (sv s) ∧ W'.cell? ⟨gw, ow + q, none⟩ = some (sv s) ∧ W'.heap[g]? = some (.cells #[f 0, f 1, f 2, f 3, f 4, f 5, f 6, f 7, f 8, f 9, f 10, f 11, f 12, f 13, f 14, f 15] 52 (0, 0))))
                              by_cases h1 : F.length = 1
                              · have h1i : ((F.length : Nat) : Int) = 1 := by omega
                                go_wp2_with fail
                                refine wp_region_noPanic ?_
                                refine wp_region_held_drew (S := fun W => W.cell? ⟨ga, oa + q, none⟩ = some (sv s) ∧ W.cell? ⟨gw, ow + q, none⟩ = some (sv s) ∧ W.heap[g]? = some (.cells #[f 0, f 1, f 2, f 3, f 4, f 5, f 6, f 7, f 8, f 9, f 10, f 11, f 12, f 13, f 14, f 15] 52 (0, 0))) (by kernel_rfl) (HS36.out _ (HK.out.drew)) (fun hHeld => ?_)
                                refine wpAnyH_take (i := 0) (oi := { dst := some 176, op := Op.move (Operand.tmp 22), type := 3, pos := "meaning.go:67", after := #[], guard := none }) (v := ?_) rfl (by kernel_rfl) (by kernel_rfl) (by kernel_rfl) (fun _ _ _ h => h) (Or.inl ⟨by rfl, ?_⟩) (by assumption) ?_
                                rotate_left
                                · intro W hSw
                                  obtain ⟨s0, s1, -⟩ := hSw
                                  go_simp
                                  try with_reducible rfl
                                simp only [Act.put, List.setIfInBounds_toArray, List.set_cons_zero, List.set_cons_succ]
                                refine wpAnyH_take (i := 1) (oi := { dst := some 177, op := Op.binOp BinOp.leq 3 (Operand.tmp 176) (Operand.const (Value.int IntKind.i64 16)) 3, type := 4, pos := "meaning.go:67", after := #[{ on := 0, ground := Ground.data }], guard := none }) (v := ?_) rfl (by kernel_rfl) (by kernel_rfl) (by kernel_rfl) (fun _ _ _ h => h) (Or.inl ⟨by rfl, ?_⟩) (by assumption) ?_
                                rotate_left
                                · intro W hSw
                                  obtain ⟨s0, s1, -⟩ := hSw
                                  go_simp
                                  try with_reducible rfl
                                simp only [Act.put, List.setIfInBounds_toArray, List.set_cons_zero, List.set_cons_succ]
                                refine wpAnyH_take (i := 2) (oi := { dst := some 178, op := Op.move (Operand.tmp 177), type := 4, pos := "meaning.go:67", after := #[{ on := 1, ground := Ground.data }], guard := none }) (v := ?_) rfl (by kernel_rfl) (by kernel_rfl) (by kernel_rfl) (fun _ _ _ h => h) (Or.inl ⟨by rfl, ?_⟩) (by assumption) ?_
                                rotate_left
                                · intro W hSw
                                  obtain ⟨s0, s1, -⟩ := hSw
                                  go_simp
                                  try with_reducible rfl
                                simp only [Act.put, List.setIfInBounds_toArray, List.set_cons_zero, List.set_cons_succ]
                                refine wpAnyH_take (i := 3) (oi := { dst := some 179, op := Op.move (Operand.tmp 24), type := 9, pos := "meaning.go:67", after := #[{ on := 2, ground := Ground.guard }], guard := some (2, true) }) (v := ?_) rfl (by kernel_rfl) (by kernel_rfl) (by kernel_rfl) (fun _ _ _ h => h) (Or.inl ⟨by rfl, ?_⟩) (by assumption) ?_
                                rotate_left
                                · intro W hSw
                                  obtain ⟨s0, s1, -⟩ := hSw
                                  go_simp
                                  try with_reducible rfl
                                simp only [Act.put, List.setIfInBounds_toArray, List.set_cons_zero, List.set_cons_succ]
                                refine wpAnyH_take (i := 4) (oi := { dst := some 180, op := Op.move (Operand.tmp 8), type := 49, pos := "meaning.go:67", after := #[{ on := 2, ground := Ground.guard }], guard := some (2, true) }) (v := ?_) rfl (by kernel_rfl) (by kernel_rfl) (by kernel_rfl) (fun _ _ _ h => h) (Or.inl ⟨by rfl, ?_⟩) (by assumption) ?_
                                rotate_left
                                · intro W hSw
                                  obtain ⟨s0, s1, -⟩ := hSw
                                  go_simp
                                  try with_reducible rfl
                                simp only [Act.put, List.setIfInBounds_toArray, List.set_cons_zero, List.set_cons_succ]
                                refine wpAnyH_take (i := 5) (oi := { dst := some 181, op := Op.move (Operand.tmp 21), type := 3, pos := "meaning.go:67", after := #[{ on := 2, ground := Ground.guard }], guard := some (2, true) }) (v := ?_) rfl (by kernel_rfl) (by kernel_rfl) (by kernel_rfl) (fun _ _ _ h => h) (Or.inl ⟨by rfl, ?_⟩) (by assumption) ?_
                                rotate_left
                                · intro W hSw
                                  obtain ⟨s0, s1, -⟩ := hSw
                                  go_simp
                                  try with_reducible rfl
                                simp only [Act.put, List.setIfInBounds_toArray, List.set_cons_zero, List.set_cons_succ]
                                refine wpAnyH_take (i := 6) (oi := { dst := some 182, op := Op.indexAddr 49 (Operand.tmp 180) (Operand.tmp 181), type := 0, pos := "meaning.go:67", after := #[{ on := 4, ground := Ground.data }, { on := 5, ground := Ground.data }, { on := 2, ground := Ground.guard }], guard := some (2, true) }) (v := ?_) rfl (by kernel_rfl) (by kernel_rfl) (by kernel_rfl) (fun _ _ _ h => h) (Or.inl ⟨by rfl, ?_⟩) (by assumption) ?_
                                rotate_left
                                · intro W hSw
                                  obtain ⟨s0, s1, -⟩ := hSw
                                  go_simp
                                  try with_reducible rfl
                                simp only [Act.put, List.setIfInBounds_toArray, List.set_cons_zero, List.set_cons_succ]
                                refine wpAnyH_take (i := 7) (oi := { dst := some 183, op := Op.load 9 (Operand.tmp 182), type := 9, pos := "meaning.go:67", after := #[{ on := 6, ground := Ground.data }, { on := 2, ground := Ground.guard }], guard := some (2, true) }) (v := ?_) rfl (by kernel_rfl) (by kernel_rfl) (by kernel_rfl) (fun _ _ _ h => h) (Or.inl ⟨by rfl, ?_⟩) (by assumption) ?_
                                rotate_left
                                · intro W hSw
                                  obtain ⟨s0, s1, -⟩ := hSw
                                  go_simp
                                  try with_reducible rfl
                                simp only [Act.put, List.setIfInBounds_toArray, List.set_cons_zero, List.set_cons_succ]
                                refine wpAnyH_take (i := 8) (oi := { dst := some 184, op := Op.binOp BinOp.neq 9 (Operand.tmp 179) (Operand.tmp 183) 9, type := 4, pos := "meaning.go:67", after := #[{ on := 3, ground := Ground.data }, { on := 7, ground := Ground.data }, { on := 2, ground := Ground.guard }], guard := some (2, true) }) (v := ?_) rfl (by kernel_rfl) (by kernel_rfl) (by kernel_rfl) (fun _ _ _ h => h) (Or.inl ⟨by rfl, ?_⟩) (by assumption) ?_
                                rotate_left
                                · intro W hSw
                                  obtain ⟨s0, s1, -⟩ := hSw
                                  go_simp
                                  try with_reducible rfl
                                simp only [Act.put, List.setIfInBounds_toArray, List.set_cons_zero, List.set_cons_succ]
                                refine wpAnyH_take (i := 9) (oi := { dst := some 185, op := Op.move (Operand.tmp 184), type := 4, pos := "meaning.go:67", after := #[{ on := 8, ground := Ground.data }, { on := 2, ground := Ground.chain }, { on := 2, ground := Ground.guard }], guard := some (2, true) }) (v := ?_) rfl (by kernel_rfl) (by kernel_rfl) (by kernel_rfl) (fun _ _ _ h => h) (Or.inl ⟨by rfl, ?_⟩) (by assumption) ?_
                                rotate_left
                                · intro W hSw
                                  obtain ⟨s0, s1, -⟩ := hSw
                                  go_simp
                                  try with_reducible rfl
                                simp only [Act.put, List.setIfInBounds_toArray, List.set_cons_zero, List.set_cons_succ]
                                refine wpAnyH_take (i := 10) (oi := { dst := some 186, op := Op.move (Operand.tmp 19), type := 49, pos := "meaning.go:67", after := #[{ on := 9, ground := Ground.guard }], guard := some (9, false) }) (v := ?_) rfl (by kernel_rfl) (by kernel_rfl) (by kernel_rfl) (fun _ _ _ h => h) (Or.inl ⟨by rfl, ?_⟩) (by assumption) ?_
                                rotate_left
                                · intro W hSw
                                  obtain ⟨s0, s1, -⟩ := hSw
                                  go_simp
                                  try with_reducible rfl
                                simp only [Act.put, List.setIfInBounds_toArray, List.set_cons_zero, List.set_cons_succ]
                                refine wpAnyH_take (i := 11) (oi := { dst := some 187, op := Op.move (Operand.tmp 21), type := 3, pos := "meaning.go:67", after := #[{ on := 9, ground := Ground.guard }], guard := some (9, false) }) (v := ?_) rfl (by kernel_rfl) (by kernel_rfl) (by kernel_rfl) (fun _ _ _ h => h) (Or.inl ⟨by rfl, ?_⟩) (by assumption) ?_
                                rotate_left
                                · intro W hSw
                                  obtain ⟨s0, s1, -⟩ := hSw
                                  go_simp
                                  try with_reducible rfl
                                simp only [Act.put, List.setIfInBounds_toArray, List.set_cons_zero, List.set_cons_succ]
                                refine wpAnyH_take (i := 12) (oi := { dst := some 188, op := Op.indexAddr 49 (Operand.tmp 186) (Operand.tmp 187), type := 0, pos := "meaning.go:67", after := #[{ on := 10, ground := Ground.data }, { on := 11, ground := Ground.data }, { on := 9, ground := Ground.guard }], guard := some (9, false) }) (v := ?_) rfl (by kernel_rfl) (by kernel_rfl) (by kernel_rfl) (fun _ _ _ h => h) (Or.inl ⟨by rfl, ?_⟩) (by assumption) ?_
                                rotate_left
                                · intro W hSw
                                  obtain ⟨s0, s1, -⟩ := hSw
                                  go_simp
                                  try with_reducible rfl
                                simp only [Act.put, List.setIfInBounds_toArray, List.set_cons_zero, List.set_cons_succ]
                                refine wpAnyH_take (i := 13) (oi := { dst := some 189, op := Op.load 9 (Operand.tmp 188), type := 9, pos := "meaning.go:67", after := #[{ on := 12, ground := Ground.data }, { on := 9, ground := Ground.guard }], guard := some (9, false) }) (v := ?_) rfl (by kernel_rfl) (by kernel_rfl) (by kernel_rfl) (fun _ _ _ h => h) (Or.inl ⟨by rfl, ?_⟩) (by assumption) ?_
                                rotate_left
                                · intro W hSw
                                  obtain ⟨s0, s1, -⟩ := hSw
                                  go_simp
                                  try with_reducible rfl
                                simp only [Act.put, List.setIfInBounds_toArray, List.set_cons_zero, List.set_cons_succ]
                                refine wpAnyH_take (i := 14) (oi := { dst := some 190, op := Op.move (Operand.tmp 8), type := 49, pos := "meaning.go:67", after := #[{ on := 9, ground := Ground.guard }], guard := some (9, false) }) (v := ?_) rfl (by kernel_rfl) (by kernel_rfl) (by kernel_rfl) (fun _ _ _ h => h) (Or.inl ⟨by rfl, ?_⟩) (by assumption) ?_
                                rotate_left
                                · intro W hSw
                                  obtain ⟨s0, s1, -⟩ := hSw
                                  go_simp
                                  try with_reducible rfl
                                simp only [Act.put, List.setIfInBounds_toArray, List.set_cons_zero, List.set_cons_succ]
                                refine wpAnyH_take (i := 15) (oi := { dst := some 191, op := Op.move (Operand.tmp 21), type := 3, pos := "meaning.go:67", after := #[{ on := 9, ground := Ground.guard }], guard := some (9, false) }) (v := ?_) rfl (by kernel_rfl) (by kernel_rfl) (by kernel_rfl) (fun _ _ _ h => h) (Or.inl ⟨by rfl, ?_⟩) (by assumption) ?_
                                rotate_left
                                · intro W hSw
                                  obtain ⟨s0, s1, -⟩ := hSw
                                  go_simp
                                  try with_reducible rfl
                                simp only [Act.put, List.setIfInBounds_toArray, List.set_cons_zero, List.set_cons_succ]
                                refine wpAnyH_take (i := 16) (oi := { dst := some 192, op := Op.indexAddr 49 (Operand.tmp 190) (Operand.tmp 191), type := 0, pos := "meaning.go:67", after := #[{ on := 14, ground := Ground.data }, { on := 15, ground := Ground.data }, { on := 9, ground := Ground.guard }], guard := some (9, false) }) (v := ?_) rfl (by kernel_rfl) (by kernel_rfl) (by kernel_rfl) (fun _ _ _ h => h) (Or.inl ⟨by rfl, ?_⟩) (by assumption) ?_
                                rotate_left
                                · intro W hSw
                                  obtain ⟨s0, s1, -⟩ := hSw
                                  go_simp
                                  try with_reducible rfl
                                simp only [Act.put, List.setIfInBounds_toArray, List.set_cons_zero, List.set_cons_succ]
                                refine wpAnyH_take (i := 17) (oi := { dst := some 193, op := Op.load 9 (Operand.tmp 192), type := 9, pos := "meaning.go:67", after := #[{ on := 16, ground := Ground.data }, { on := 9, ground := Ground.guard }], guard := some (9, false) }) (v := ?_) rfl (by kernel_rfl) (by kernel_rfl) (by kernel_rfl) (fun _ _ _ h => h) (Or.inl ⟨by rfl, ?_⟩) (by assumption) ?_
                                rotate_left
                                · intro W hSw
                                  obtain ⟨s0, s1, -⟩ := hSw
                                  go_simp
                                  try with_reducible rfl
                                simp only [Act.put, List.setIfInBounds_toArray, List.set_cons_zero, List.set_cons_succ]
                                refine wpAnyH_take (i := 18) (oi := { dst := some 194, op := Op.binOp BinOp.neq 9 (Operand.tmp 189) (Operand.tmp 193) 9, type := 4, pos := "meaning.go:67", after := #[{ on := 13, ground := Ground.data }, { on := 17, ground := Ground.data }, { on := 9, ground := Ground.guard }], guard := some (9, false) }) (v := ?_) rfl (by kernel_rfl) (by kernel_rfl) (by kernel_rfl) (fun _ _ _ h => h) (Or.inl ⟨by rfl, ?_⟩) (by assumption) ?_
                                rotate_left
                                · intro W hSw
                                  obtain ⟨s0, s1, -⟩ := hSw
                                  go_simp
                                  try with_reducible rfl
                                simp only [Act.put, List.setIfInBounds_toArray, List.set_cons_zero, List.set_cons_succ]
                                refine wpAnyH_take (i := 19) (oi := { dst := some 195, op := Op.pick (Operand.tmp 185) (Operand.const (Value.bool true)) (Operand.tmp 194), type := 4, pos := "meaning.go:67", after := #[{ on := 9, ground := Ground.data }, { on := 18, ground := Ground.data }, { on := 2, ground := Ground.guard }], guard := some (2, true) }) (v := ?_) rfl (by kernel_rfl) (by kernel_rfl) (by kernel_rfl) (fun _ _ _ h => h) (Or.inl ⟨by rfl, ?_⟩) (by assumption) ?_
                                rotate_left
                                · intro W hSw
                                  obtain ⟨s0, s1, -⟩ := hSw
                                  go_simp
                                  try with_reducible rfl
                                simp only [Act.put, List.setIfInBounds_toArray, List.set_cons_zero, List.set_cons_succ]
                                refine wpAnyH_take (i := 20) (oi := { dst := some 196, op := Op.pick (Operand.tmp 178) (Operand.tmp 195) (Operand.const (Value.bool false)), type := 4, pos := "meaning.go:67", after := #[{ on := 2, ground := Ground.data }, { on := 19, ground := Ground.data }], guard := none }) (v := ?_) rfl (by kernel_rfl) (by kernel_rfl) (by kernel_rfl) (fun _ _ _ h => h) (Or.inl ⟨by rfl, ?_⟩) (by assumption) ?_
                                rotate_left
                                · intro W hSw
                                  obtain ⟨s0, s1, -⟩ := hSw
                                  go_simp
                                  try with_reducible rfl
                                simp only [Act.put, List.setIfInBounds_toArray, List.set_cons_zero, List.set_cons_succ]
                                refine wpAnyH_take (i := 21) (oi := { dst := some 197, op := Op.move (Operand.tmp 196), type := 4, pos := "meaning.go:67", after := #[{ on := 20, ground := Ground.data }, { on := 9, ground := Ground.chain }], guard := none }) (v := ?_) rfl (by kernel_rfl) (by kernel_rfl) (by kernel_rfl) (fun _ _ _ h => h) (Or.inl ⟨by rfl, ?_⟩) (by assumption) ?_
                                rotate_left
                                · intro W hSw
                                  obtain ⟨s0, s1, -⟩ := hSw
                                  go_simp
                                  try with_reducible rfl
                                simp only [Act.put, List.setIfInBounds_toArray, List.set_cons_zero, List.set_cons_succ]
                                refine wpAnyH_take (i := 22) (oi := { dst := some 198, op := Op.move (Operand.tmp 22), type := 3, pos := "meaning.go:67", after := #[{ on := 21, ground := Ground.guard }], guard := some (21, false) }) (v := ?_) rfl (by kernel_rfl) (by kernel_rfl) (by kernel_rfl) (fun _ _ _ h => h) (Or.inl ⟨by rfl, ?_⟩) (by assumption) ?_
                                rotate_left
                                · intro W hSw
                                  obtain ⟨s0, s1, -⟩ := hSw
                                  go_simp
                                  try with_reducible rfl
                                simp only [Act.put, List.setIfInBounds_toArray, List.set_cons_zero, List.set_cons_succ]
                                refine wpAnyH_take (i := 23) (oi := { dst := some 199, op := Op.binOp BinOp.gtr 3 (Operand.tmp 198) (Operand.const (Value.int IntKind.i64 1)) 3, type := 4, pos := "meaning.go:67", after := #[{ on := 22, ground := Ground.data }, { on := 21, ground := Ground.guard }], guard := some (21, false) }) (v := ?_) rfl (by kernel_rfl) (by kernel_rfl) (by kernel_rfl) (fun _ _ _ h => h) (Or.inl ⟨by rfl, ?_⟩) (by assumption) ?_
                                rotate_left
                                · intro W hSw
                                  obtain ⟨s0, s1, -⟩ := hSw
                                  go_simp
                                  try with_reducible rfl
                                simp only [Act.put, List.setIfInBounds_toArray, List.set_cons_zero, List.set_cons_succ]
                                refine wpAnyH_take (i := 24) (oi := { dst := some 200, op := Op.move (Operand.tmp 199), type := 4, pos := "meaning.go:67", after := #[{ on := 23, ground := Ground.data }, { on := 21, ground := Ground.chain }, { on := 21, ground := Ground.guard }], guard := some (21, false) }) (v := ?_) rfl (by kernel_rfl) (by kernel_rfl) (by kernel_rfl) (fun _ _ _ h => h) (Or.inl ⟨by rfl, ?_⟩) (by assumption) ?_
                                rotate_left
                                · intro W hSw
                                  obtain ⟨s0, s1, -⟩ := hSw
                                  go_simp
                                  try with_reducible rfl
                                simp only [Act.put, List.setIfInBounds_toArray, List.set_cons_zero, List.set_cons_succ]
                                refine wpAnyH_take (i := 25) (oi := { dst := some 201, op := Op.move (Operand.tmp 0), type := 5, pos := "meaning.go:67", after := #[{ on := 24, ground := Ground.guard }], guard := some (24, true) }) (v := undef) rfl (by kernel_rfl) (by kernel_rfl) (by kernel_rfl) (fun _ _ _ h => h) (Or.inr ⟨by rfl, rfl⟩) (by assumption) ?_
                                simp only [Act.put, List.setIfInBounds_toArray, List.set_cons_zero, List.set_cons_succ]
                                refine wpAnyH_take (i := 26) (oi := { dst := some 202, op := Op.move (Operand.tmp 21), type := 3, pos := "meaning.go:67", after := #[{ on := 24, ground := Ground.guard }], guard := some (24, true) }) (v := undef) rfl (by kernel_rfl) (by kernel_rfl) (by kernel_rfl) (fun _ _ _ h => h) (Or.inr ⟨by rfl, rfl⟩) (by assumption) ?_
                                simp only [Act.put, List.setIfInBounds_toArray, List.set_cons_zero, List.set_cons_succ]
                                refine wpAnyH_take (i := 27) (oi := { dst := some 203, op := Op.load 52 (Operand.tmp 10), type := 52, pos := "meaning.go:67", after := #[{ on := 24, ground := Ground.guard }], guard := some (24, true) }) (v := undef) rfl (by kernel_rfl) (by kernel_rfl) (by kernel_rfl) (fun _ _ _ h => h) (Or.inr ⟨by rfl, rfl⟩) (by assumption) ?_
                                simp only [Act.put, List.setIfInBounds_toArray, List.set_cons_zero, List.set_cons_succ]
                                refine wpAnyH_take (i := 28) (oi := { dst := some 204, op := Op.call { callee := Callee.value (Operand.func 18), args := #[Operand.tmp 201, Operand.tmp 202, Operand.tmp 203], argTypes := #[5, 3, 52] }, type := 4, pos := "meaning.go:67", after := #[{ on := 25, ground := Ground.data }, { on := 26, ground := Ground.data }, { on := 27, ground := Ground.data }, { on := 24, ground := Ground.chain }, { on := 24, ground := Ground.guard }], guard := some (24, true) }) (v := undef) rfl (by kernel_rfl) (by kernel_rfl) (by kernel_rfl) (fun _ _ _ h => h) (Or.inr ⟨by rfl, rfl⟩) (by assumption) ?_
                                simp only [Act.put, List.setIfInBounds_toArray, List.set_cons_zero, List.set_cons_succ]
                                refine wpAnyH_take (i := 29) (oi := { dst := some 205, op := Op.unOp UnOp.not 4 (Operand.tmp 204), type := 4, pos := "meaning.go:67", after := #[{ on := 28, ground := Ground.data }, { on := 24, ground := Ground.guard }], guard := some (24, true) }) (v := undef) rfl (by kernel_rfl) (by kernel_rfl) (by kernel_rfl) (fun _ _ _ h => h) (Or.inr ⟨by rfl, rfl⟩) (by assumption) ?_
                                simp only [Act.put, List.setIfInBounds_toArray, List.set_cons_zero, List.set_cons_succ]
                                refine wpAnyH_take (i := 30) (oi := { dst := some 206, op := Op.pick (Operand.tmp 200) (Operand.tmp 205) (Operand.const (Value.bool false)), type := 4, pos := "meaning.go:67", after := #[{ on := 24, ground := Ground.data }, { on := 29, ground := Ground.data }, { on := 21, ground := Ground.guard }], guard := some (21, false) }) (v := ?_) rfl (by kernel_rfl) (by kernel_rfl) (by kernel_rfl) (fun _ _ _ h => h) (Or.inl ⟨by rfl, ?_⟩) (by assumption) ?_
                                rotate_left
                                · intro W hSw
                                  obtain ⟨s0, s1, -⟩ := hSw
                                  go_simp
                                  try with_reducible rfl
                                simp only [Act.put, List.setIfInBounds_toArray, List.set_cons_zero, List.set_cons_succ]
                                refine wpAnyH_take (i := 31) (oi := { dst := some 207, op := Op.pick (Operand.tmp 197) (Operand.const (Value.bool true)) (Operand.tmp 206), type := 4, pos := "meaning.go:67", after := #[{ on := 21, ground := Ground.data }, { on := 30, ground := Ground.data }], guard := none }) (v := ?_) rfl (by kernel_rfl) (by kernel_rfl) (by kernel_rfl) (fun _ _ _ h => h) (Or.inl ⟨by rfl, ?_⟩) (by assumption) ?_
                                rotate_left
                                · intro W hSw
                                  obtain ⟨s0, s1, -⟩ := hSw
                                  go_simp
                                  try with_reducible rfl
                                simp only [Act.put, List.setIfInBounds_toArray, List.set_cons_zero, List.set_cons_succ]
                                refine wpAnyH_done (by kernel_rfl) ?_ _
                                refine NoPanic.normal ?_
                                go_wp2
                                go_roundw
                                case rel => exact ⟨q + 1, by omega, by go_num, Lib.hid HK.out.drew⟩
                                case measure => simp [intOf]; omega
                              · have HNB := Lib.hid (HNB0.out h1)
                                have h1i : (1 : Int) < F.length := by omega
                                go_wp2_with fail
                                refine wp_region_noPanic ?_
                                refine wp_region_held_drew (S := fun W => W.cell? ⟨ga, oa + q, none⟩ = some (sv s) ∧ W.cell? ⟨gw, ow + q, none⟩ = some (sv s) ∧ W.heap[g]? = some (.cells #[f 0, f 1, f 2, f 3, f 4, f 5, f 6, f 7, f 8, f 9, f 10, f 11, f 12, f 13, f 14, f 15] 52 (0, 0))) (by kernel_rfl) (HS36.out _ (HK.out.drew)) (fun hHeld => ?_)
                                refine wpAnyH_take (i := 0) (oi := { dst := some 176, op := Op.move (Operand.tmp 22), type := 3, pos := "meaning.go:67", after := #[], guard := none }) (v := ?_) rfl (by kernel_rfl) (by kernel_rfl) (by kernel_rfl) (fun _ _ _ h => h) (Or.inl ⟨by rfl, ?_⟩) (by assumption) ?_
                                rotate_left
                                · intro W hSw
                                  obtain ⟨s0, s1, -⟩ := hSw
                                  go_simp
                                  try with_reducible rfl
                                simp only [Act.put, List.setIfInBounds_toArray, List.set_cons_zero, List.set_cons_succ]
                                refine wpAnyH_take (i := 1) (oi := { dst := some 177, op := Op.binOp BinOp.leq 3 (Operand.tmp 176) (Operand.const (Value.int IntKind.i64 16)) 3, type := 4, pos := "meaning.go:67", after := #[{ on := 0, ground := Ground.data }], guard := none }) (v := ?_) rfl (by kernel_rfl) (by kernel_rfl) (by kernel_rfl) (fun _ _ _ h => h) (Or.inl ⟨by rfl, ?_⟩) (by assumption) ?_
                                rotate_left
                                · intro W hSw
                                  obtain ⟨s0, s1, -⟩ := hSw
                                  go_simp
                                  try with_reducible rfl
                                simp only [Act.put, List.setIfInBounds_toArray, List.set_cons_zero, List.set_cons_succ]
                                refine wpAnyH_take (i := 2) (oi := { dst := some 178, op := Op.move (Operand.tmp 177), type := 4, pos := "meaning.go:67", after := #[{ on := 1, ground := Ground.data }], guard := none }) (v := ?_) rfl (by kernel_rfl) (by kernel_rfl) (by kernel_rfl) (fun _ _ _ h => h) (Or.inl ⟨by rfl, ?_⟩) (by assumption) ?_
                                rotate_left
                                · intro W hSw
                                  obtain ⟨s0, s1, -⟩ := hSw
                                  go_simp
                                  try with_reducible rfl
                                simp only [Act.put, List.setIfInBounds_toArray, List.set_cons_zero, List.set_cons_succ]
                                refine wpAnyH_take (i := 3) (oi := { dst := some 179, op := Op.move (Operand.tmp 24), type := 9, pos := "meaning.go:67", after := #[{ on := 2, ground := Ground.guard }], guard := some (2, true) }) (v := ?_) rfl (by kernel_rfl) (by kernel_rfl) (by kernel_rfl) (fun _ _ _ h => h) (Or.inl ⟨by rfl, ?_⟩) (by assumption) ?_
                                rotate_left
                                · intro W hSw
                                  obtain ⟨s0, s1, -⟩ := hSw
                                  go_simp
                                  try with_reducible rfl
                                simp only [Act.put, List.setIfInBounds_toArray, List.set_cons_zero, List.set_cons_succ]
                                refine wpAnyH_take (i := 4) (oi := { dst := some 180, op := Op.move (Operand.tmp 8), type := 49, pos := "meaning.go:67", after := #[{ on := 2, ground := Ground.guard }], guard := some (2, true) }) (v := ?_) rfl (by kernel_rfl) (by kernel_rfl) (by kernel_rfl) (fun _ _ _ h => h) (Or.inl ⟨by rfl, ?_⟩) (by assumption) ?_
                                rotate_left
                                · intro W hSw
                                  obtain ⟨s0, s1, -⟩ := hSw
                                  go_simp
                                  try with_reducible rfl
                                simp only [Act.put, List.setIfInBounds_toArray, List.set_cons_zero, List.set_cons_succ]
                                refine wpAnyH_take (i := 5) (oi := { dst := some 181, op := Op.move (Operand.tmp 21), type := 3, pos := "meaning.go:67", after := #[{ on := 2, ground := Ground.guard }], guard := some (2, true) }) (v := ?_) rfl (by kernel_rfl) (by kernel_rfl) (by kernel_rfl) (fun _ _ _ h => h) (Or.inl ⟨by rfl, ?_⟩) (by assumption) ?_
                                rotate_left
                                · intro W hSw
                                  obtain ⟨s0, s1, -⟩ := hSw
                                  go_simp
                                  try with_reducible rfl
                                simp only [Act.put, List.setIfInBounds_toArray, List.set_cons_zero, List.set_cons_succ]
                                refine wpAnyH_take (i := 6) (oi := { dst := some 182, op := Op.indexAddr 49 (Operand.tmp 180) (Operand.tmp 181), type := 0, pos := "meaning.go:67", after := #[{ on := 4, ground := Ground.data }, { on := 5, ground := Ground.data }, { on := 2, ground := Ground.guard }], guard := some (2, true) }) (v := ?_) rfl (by kernel_rfl) (by kernel_rfl) (by kernel_rfl) (fun _ _ _ h => h) (Or.inl ⟨by rfl, ?_⟩) (by assumption) ?_
                                rotate_left
                                · intro W hSw
                                  obtain ⟨s0, s1, -⟩ := hSw
                                  go_simp
                                  try with_reducible rfl
                                simp only [Act.put, List.setIfInBounds_toArray, List.set_cons_zero, List.set_cons_succ]
                                refine wpAnyH_take (i := 7) (oi := { dst := some 183, op := Op.load 9 (Operand.tmp 182), type := 9, pos := "meaning.go:67", after := #[{ on := 6, ground := Ground.data }, { on := 2, ground := Ground.guard }], guard := some (2, true) }) (v := ?_) rfl (by kernel_rfl) (by kernel_rfl) (by kernel_rfl) (fun _ _ _ h => h) (Or.inl ⟨by rfl, ?_⟩) (by assumption) ?_
                                rotate_left
                                · intro W hSw
                                  obtain ⟨s0, s1, -⟩ := hSw
                                  go_simp
                                  try with_reducible rfl
                                simp only [Act.put, List.setIfInBounds_toArray, List.set_cons_zero, List.set_cons_succ]
                                refine wpAnyH_take (i := 8) (oi := { dst := some 184, op := Op.binOp BinOp.neq 9 (Operand.tmp 179) (Operand.tmp 183) 9, type := 4, pos := "meaning.go:67", after := #[{ on := 3, ground := Ground.data }, { on := 7, ground := Ground.data }, { on := 2, ground := Ground.guard }], guard := some (2, true) }) (v := ?_) rfl (by kernel_rfl) (by kernel_rfl) (by kernel_rfl) (fun _ _ _ h => h) (Or.inl ⟨by rfl, ?_⟩) (by assumption) ?_
                                rotate_left
                                · intro W hSw
                                  obtain ⟨s0, s1, -⟩ := hSw
                                  go_simp
                                  try with_reducible rfl
                                simp only [Act.put, List.setIfInBounds_toArray, List.set_cons_zero, List.set_cons_succ]
                                refine wpAnyH_take (i := 9) (oi := { dst := some 185, op := Op.move (Operand.tmp 184), type := 4, pos := "meaning.go:67", after := #[{ on := 8, ground := Ground.data }, { on := 2, ground := Ground.chain }, { on := 2, ground := Ground.guard }], guard := some (2, true) }) (v := ?_) rfl (by kernel_rfl) (by kernel_rfl) (by kernel_rfl) (fun _ _ _ h => h) (Or.inl ⟨by rfl, ?_⟩) (by assumption) ?_
                                rotate_left
                                · intro W hSw
                                  obtain ⟨s0, s1, -⟩ := hSw
                                  go_simp
                                  try with_reducible rfl
                                simp only [Act.put, List.setIfInBounds_toArray, List.set_cons_zero, List.set_cons_succ]
                                refine wpAnyH_take (i := 10) (oi := { dst := some 186, op := Op.move (Operand.tmp 19), type := 49, pos := "meaning.go:67", after := #[{ on := 9, ground := Ground.guard }], guard := some (9, false) }) (v := ?_) rfl (by kernel_rfl) (by kernel_rfl) (by kernel_rfl) (fun _ _ _ h => h) (Or.inl ⟨by rfl, ?_⟩) (by assumption) ?_
                                rotate_left
                                · intro W hSw
                                  obtain ⟨s0, s1, -⟩ := hSw
                                  go_simp
                                  try with_reducible rfl
                                simp only [Act.put, List.setIfInBounds_toArray, List.set_cons_zero, List.set_cons_succ]
                                refine wpAnyH_take (i := 11) (oi := { dst := some 187, op := Op.move (Operand.tmp 21), type := 3, pos := "meaning.go:67", after := #[{ on := 9, ground := Ground.guard }], guard := some (9, false) }) (v := ?_) rfl (by kernel_rfl) (by kernel_rfl) (by kernel_rfl) (fun _ _ _ h => h) (Or.inl ⟨by rfl, ?_⟩) (by assumption) ?_
                                rotate_left
                                · intro W hSw
                                  obtain ⟨s0, s1, -⟩ := hSw
                                  go_simp
                                  try with_reducible rfl
                                simp only [Act.put, List.setIfInBounds_toArray, List.set_cons_zero, List.set_cons_succ]
                                refine wpAnyH_take (i := 12) (oi := { dst := some 188, op := Op.indexAddr 49 (Operand.tmp 186) (Operand.tmp 187), type := 0, pos := "meaning.go:67", after := #[{ on := 10, ground := Ground.data }, { on := 11, ground := Ground.data }, { on := 9, ground := Ground.guard }], guard := some (9, false) }) (v := ?_) rfl (by kernel_rfl) (by kernel_rfl) (by kernel_rfl) (fun _ _ _ h => h) (Or.inl ⟨by rfl, ?_⟩) (by assumption) ?_
                                rotate_left
                                · intro W hSw
                                  obtain ⟨s0, s1, -⟩ := hSw
                                  go_simp
                                  try with_reducible rfl
                                simp only [Act.put, List.setIfInBounds_toArray, List.set_cons_zero, List.set_cons_succ]
                                refine wpAnyH_take (i := 13) (oi := { dst := some 189, op := Op.load 9 (Operand.tmp 188), type := 9, pos := "meaning.go:67", after := #[{ on := 12, ground := Ground.data }, { on := 9, ground := Ground.guard }], guard := some (9, false) }) (v := ?_) rfl (by kernel_rfl) (by kernel_rfl) (by kernel_rfl) (fun _ _ _ h => h) (Or.inl ⟨by rfl, ?_⟩) (by assumption) ?_
                                rotate_left
                                · intro W hSw
                                  obtain ⟨s0, s1, -⟩ := hSw
                                  go_simp
                                  try with_reducible rfl
                                simp only [Act.put, List.setIfInBounds_toArray, List.set_cons_zero, List.set_cons_succ]
                                refine wpAnyH_take (i := 14) (oi := { dst := some 190, op := Op.move (Operand.tmp 8), type := 49, pos := "meaning.go:67", after := #[{ on := 9, ground := Ground.guard }], guard := some (9, false) }) (v := ?_) rfl (by kernel_rfl) (by kernel_rfl) (by kernel_rfl) (fun _ _ _ h => h) (Or.inl ⟨by rfl, ?_⟩) (by assumption) ?_
                                rotate_left
                                · intro W hSw
                                  obtain ⟨s0, s1, -⟩ := hSw
                                  go_simp
                                  try with_reducible rfl
                                simp only [Act.put, List.setIfInBounds_toArray, List.set_cons_zero, List.set_cons_succ]
                                refine wpAnyH_take (i := 15) (oi := { dst := some 191, op := Op.move (Operand.tmp 21), type := 3, pos := "meaning.go:67", after := #[{ on := 9, ground := Ground.guard }], guard := some (9, false) }) (v := ?_) rfl (by kernel_rfl) (by kernel_rfl) (by kernel_rfl) (fun _ _ _ h => h) (Or.inl ⟨by rfl, ?_⟩) (by assumption) ?_
                                rotate_left
                                · intro W hSw
                                  obtain ⟨s0, s1, -⟩ := hSw
                                  go_simp
                                  try with_reducible rfl
                                simp only [Act.put, List.setIfInBounds_toArray, List.set_cons_zero, List.set_cons_succ]
                                refine wpAnyH_take (i := 16) (oi := { dst := some 192, op := Op.indexAddr 49 (Operand.tmp 190) (Operand.tmp 191), type := 0, pos := "meaning.go:67", after := #[{ on := 14, ground := Ground.data }, { on := 15, ground := Ground.data }, { on := 9, ground := Ground.guard }], guard := some (9, false) }) (v := ?_) rfl (by kernel_rfl) (by kernel_rfl) (by kernel_rfl) (fun _ _ _ h => h) (Or.inl ⟨by rfl, ?_⟩) (by assumption) ?_
                                rotate_left
                                · intro W hSw
                                  obtain ⟨s0, s1, -⟩ := hSw
                                  go_simp
                                  try with_reducible rfl
                                simp only [Act.put, List.setIfInBounds_toArray, List.set_cons_zero, List.set_cons_succ]
                                refine wpAnyH_take (i := 17) (oi := { dst := some 193, op := Op.load 9 (Operand.tmp 192), type := 9, pos := "meaning.go:67", after := #[{ on := 16, ground := Ground.data }, { on := 9, ground := Ground.guard }], guard := some (9, false) }) (v := ?_) rfl (by kernel_rfl) (by kernel_rfl) (by kernel_rfl) (fun _ _ _ h => h) (Or.inl ⟨by rfl, ?_⟩) (by assumption) ?_
                                rotate_left
                                · intro W hSw
                                  obtain ⟨s0, s1, -⟩ := hSw
                                  go_simp
                                  try with_reducible rfl
                                simp only [Act.put, List.setIfInBounds_toArray, List.set_cons_zero, List.set_cons_succ]
                                refine wpAnyH_take (i := 18) (oi := { dst := some 194, op := Op.binOp BinOp.neq 9 (Operand.tmp 189) (Operand.tmp 193) 9, type := 4, pos := "meaning.go:67", after := #[{ on := 13, ground := Ground.data }, { on := 17, ground := Ground.data }, { on := 9, ground := Ground.guard }], guard := some (9, false) }) (v := ?_) rfl (by kernel_rfl) (by kernel_rfl) (by kernel_rfl) (fun _ _ _ h => h) (Or.inl ⟨by rfl, ?_⟩) (by assumption) ?_
                                rotate_left
                                · intro W hSw
                                  obtain ⟨s0, s1, -⟩ := hSw
                                  go_simp
                                  try with_reducible rfl
                                simp only [Act.put, List.setIfInBounds_toArray, List.set_cons_zero, List.set_cons_succ]
                                refine wpAnyH_take (i := 19) (oi := { dst := some 195, op := Op.pick (Operand.tmp 185) (Operand.const (Value.bool true)) (Operand.tmp 194), type := 4, pos := "meaning.go:67", after := #[{ on := 9, ground := Ground.data }, { on := 18, ground := Ground.data }, { on := 2, ground := Ground.guard }], guard := some (2, true) }) (v := ?_) rfl (by kernel_rfl) (by kernel_rfl) (by kernel_rfl) (fun _ _ _ h => h) (Or.inl ⟨by rfl, ?_⟩) (by assumption) ?_
                                rotate_left
                                · intro W hSw
                                  obtain ⟨s0, s1, -⟩ := hSw
                                  go_simp
                                  try with_reducible rfl
                                simp only [Act.put, List.setIfInBounds_toArray, List.set_cons_zero, List.set_cons_succ]
                                refine wpAnyH_take (i := 20) (oi := { dst := some 196, op := Op.pick (Operand.tmp 178) (Operand.tmp 195) (Operand.const (Value.bool false)), type := 4, pos := "meaning.go:67", after := #[{ on := 2, ground := Ground.data }, { on := 19, ground := Ground.data }], guard := none }) (v := ?_) rfl (by kernel_rfl) (by kernel_rfl) (by kernel_rfl) (fun _ _ _ h => h) (Or.inl ⟨by rfl, ?_⟩) (by assumption) ?_
                                rotate_left
                                · intro W hSw
                                  obtain ⟨s0, s1, -⟩ := hSw
                                  go_simp
                                  try with_reducible rfl
                                simp only [Act.put, List.setIfInBounds_toArray, List.set_cons_zero, List.set_cons_succ]
                                refine wpAnyH_take (i := 21) (oi := { dst := some 197, op := Op.move (Operand.tmp 196), type := 4, pos := "meaning.go:67", after := #[{ on := 20, ground := Ground.data }, { on := 9, ground := Ground.chain }], guard := none }) (v := ?_) rfl (by kernel_rfl) (by kernel_rfl) (by kernel_rfl) (fun _ _ _ h => h) (Or.inl ⟨by rfl, ?_⟩) (by assumption) ?_
                                rotate_left
                                · intro W hSw
                                  obtain ⟨s0, s1, -⟩ := hSw
                                  go_simp
                                  try with_reducible rfl
                                simp only [Act.put, List.setIfInBounds_toArray, List.set_cons_zero, List.set_cons_succ]
                                refine wpAnyH_take (i := 22) (oi := { dst := some 198, op := Op.move (Operand.tmp 22), type := 3, pos := "meaning.go:67", after := #[{ on := 21, ground := Ground.guard }], guard := some (21, false) }) (v := ?_) rfl (by kernel_rfl) (by kernel_rfl) (by kernel_rfl) (fun _ _ _ h => h) (Or.inl ⟨by rfl, ?_⟩) (by assumption) ?_
                                rotate_left
                                · intro W hSw
                                  obtain ⟨s0, s1, -⟩ := hSw
                                  go_simp
                                  try with_reducible rfl
                                simp only [Act.put, List.setIfInBounds_toArray, List.set_cons_zero, List.set_cons_succ]
                                refine wpAnyH_take (i := 23) (oi := { dst := some 199, op := Op.binOp BinOp.gtr 3 (Operand.tmp 198) (Operand.const (Value.int IntKind.i64 1)) 3, type := 4, pos := "meaning.go:67", after := #[{ on := 22, ground := Ground.data }, { on := 21, ground := Ground.guard }], guard := some (21, false) }) (v := ?_) rfl (by kernel_rfl) (by kernel_rfl) (by kernel_rfl) (fun _ _ _ h => h) (Or.inl ⟨by rfl, ?_⟩) (by assumption) ?_
                                rotate_left
                                · intro W hSw
                                  obtain ⟨s0, s1, -⟩ := hSw
                                  go_simp
                                  try with_reducible rfl
                                simp only [Act.put, List.setIfInBounds_toArray, List.set_cons_zero, List.set_cons_succ]
                                refine wpAnyH_take (i := 24) (oi := { dst := some 200, op := Op.move (Operand.tmp 199), type := 4, pos := "meaning.go:67", after := #[{ on := 23, ground := Ground.data }, { on := 21, ground := Ground.chain }, { on := 21, ground := Ground.guard }], guard := some (21, false) }) (v := ?_) rfl (by kernel_rfl) (by kernel_rfl) (by kernel_rfl) (fun _ _ _ h => h) (Or.inl ⟨by rfl, ?_⟩) (by assumption) ?_
                                rotate_left
                                · intro W hSw
                                  obtain ⟨s0, s1, -⟩ := hSw
                                  go_simp
                                  try with_reducible rfl
                                simp only [Act.put, List.setIfInBounds_toArray, List.set_cons_zero, List.set_cons_succ]
                                refine wpAnyH_take (i := 25) (oi := { dst := some 201, op := Op.move (Operand.tmp 0), type := 5, pos := "meaning.go:67", after := #[{ on := 24, ground := Ground.guard }], guard := some (24, true) }) (v := ?_) rfl (by kernel_rfl) (by kernel_rfl) (by kernel_rfl) (fun _ _ _ h => h) (Or.inl ⟨by rfl, ?_⟩) (by assumption) ?_
                                rotate_left
                                · intro W hSw
                                  obtain ⟨s0, s1, -⟩ := hSw
                                  go_simp
                                  try with_reducible rfl
                                simp only [Act.put, List.setIfInBounds_toArray, List.set_cons_zero, List.set_cons_succ]
                                refine wpAnyH_take (i := 26) (oi := { dst := some 202, op := Op.move (Operand.tmp 21), type := 3, pos := "meaning.go:67", after := #[{ on := 24, ground := Ground.guard }], guard := some (24, true) }) (v := ?_) rfl (by kernel_rfl) (by kernel_rfl) (by kernel_rfl) (fun _ _ _ h => h) (Or.inl ⟨by rfl, ?_⟩) (by assumption) ?_
                                rotate_left
                                · intro W hSw
                                  obtain ⟨s0, s1, -⟩ := hSw
                                  go_simp
                                  try with_reducible rfl
                                simp only [Act.put, List.setIfInBounds_toArray, List.set_cons_zero, List.set_cons_succ]
                                refine wpAnyH_take (i := 27) (oi := { dst := some 203, op := Op.load 52 (Operand.tmp 10), type := 52, pos := "meaning.go:67", after := #[{ on := 24, ground := Ground.guard }], guard := some (24, true) }) (v := .agg #[f 0, f 1, f 2, f 3, f 4, f 5, f 6, f 7, f 8, f 9, f 10, f 11, f 12, f 13, f 14, f 15]) rfl (by kernel_rfl) (by kernel_rfl) (by kernel_rfl) (fun _ _ _ h => h) (yieldsIf_load_mid (by rfl) 52 (.tmp 10) rfl g 0 rfl [f 0, f 1, f 2, f 3, f 4, f 5, f 6, f 7, f 8, f 9, f 10, f 11, f 12, f 13, f 14, f 15] _ (fun W hW => range_of_row hW.2.2) Tryd.underlying52 rfl (by kernel_rfl)) (by assumption) ?_
                                simp only [Act.put, List.setIfInBounds_toArray, List.set_cons_zero, List.set_cons_succ]
                                refine wpAnyH_ready (rs := [28]) (by kernel_rfl) (by simp) ?_
                                refine AllReadyH.cons (o := { dst := some 204, op := Op.call { callee := Callee.value (Operand.func 18), args := #[Operand.tmp 201, Operand.tmp 202, Operand.tmp 203], argTypes := #[5, 3, 52] }, type := 4, pos := "meaning.go:67", after := #[{ on := 25, ground := Ground.data }, { on := 26, ground := Ground.data }, { on := 27, ground := Ground.data }, { on := 24, ground := Ground.chain }, { on := 24, ground := Ground.guard }], guard := some (24, true) }) rfl (fun K hK => ?_) (AllReadyH.nil)
                                go_simp
                                go_at_call 18
                                refine (HBR.out _ (HK.out.drew) HNB.out).mono ?_
                                rintro e7 w7 ⟨rfl, hf7⟩
                                have HK7 := Lib.hid ((HK.out.drew).trans hf7)
                                go_wp2_with fail
                                refine hK.out _ _ (HS36.out _ HK7.out) (fun hHeld => ?_)
                                clear hK K
                                refine wpAnyH_take (i := 29) (oi := { dst := some 205, op := Op.unOp UnOp.not 4 (Operand.tmp 204), type := 4, pos := "meaning.go:67", after := #[{ on := 28, ground := Ground.data }, { on := 24, ground := Ground.guard }], guard := some (24, true) }) (v := ?_) rfl (by kernel_rfl) (by kernel_rfl) (by kernel_rfl) (fun _ _ _ h => h) (Or.inl ⟨by rfl, ?_⟩) (by assumption) ?_
                                rotate_left
                                · intro W hSw
                                  obtain ⟨s0, s1, -⟩ := hSw
                                  go_simp
                                  try with_reducible rfl
                                simp only [Act.put, List.setIfInBounds_toArray, List.set_cons_zero, List.set_cons_succ]
                                refine wpAnyH_take (i := 30) (oi := { dst := some 206, op := Op.pick (Operand.tmp 200) (Operand.tmp 205) (Operand.const (Value.bool false)), type := 4, pos := "meaning.go:67", after := #[{ on := 24, ground := Ground.data }, { on := 29, ground := Ground.data }, { on := 21, ground := Ground.guard }], guard := some (21, false) }) (v := ?_) rfl (by kernel_rfl) (by kernel_rfl) (by kernel_rfl) (fun _ _ _ h => h) (Or.inl ⟨by rfl, ?_⟩) (by assumption) ?_
                                rotate_left
                                · intro W hSw
                                  obtain ⟨s0, s1, -⟩ := hSw
                                  go_simp
                                  try with_reducible rfl
                                simp only [Act.put, List.setIfInBounds_toArray, List.set_cons_zero, List.set_cons_succ]
                                refine wpAnyH_take (i := 31) (oi := { dst := some 207, op := Op.pick (Operand.tmp 197) (Operand.const (Value.bool true)) (Operand.tmp 206), type := 4, pos := "meaning.go:67", after := #[{ on := 21, ground := Ground.data }, { on := 30, ground := Ground.data }], guard := none }) (v := ?_) rfl (by kernel_rfl) (by kernel_rfl) (by kernel_rfl) (fun _ _ _ h => h) (Or.inl ⟨by rfl, ?_⟩) (by assumption) ?_
                                rotate_left
                                · intro W hSw
                                  obtain ⟨s0, s1, -⟩ := hSw
                                  go_simp
                                  try with_reducible rfl
                                simp only [Act.put, List.setIfInBounds_toArray, List.set_cons_zero, List.set_cons_succ]
                                refine wpAnyH_done (by kernel_rfl) ?_ _
                                refine NoPanic.normal ?_
                                go_wp2
                                go_roundw
                                case rel => exact ⟨q + 1, by omega, by go_num, HK7⟩
                                case measure => simp [intOf]; omega
                            · obtain rfl : k = 16 := by omega
                              have hbi16 : ¬ (F.length : Int) ≤ 16 := by omega
                              have hbi16' : (16 : Int) < F.length := by omega
                              have hbd16 : decide ((F.length : Int) ≤ 16) = false := decide_eq_false hbi16
                              have HS36 := Lib.hid (fun (W' : World) (F' : Fr No w6 W') => (⟨HC1.out _ F', HC2.out _ F', HROW.out _ (HX6.out.trans F')⟩ : W'.cell? ⟨ga, oa + q, none⟩ = some (sv s) ∧ W'.cell? ⟨gw, ow + q, none⟩ = some (sv (lineM c 65535 s)) ∧ W'.heap[g]? = some (.cells #[f 0, f 1, f 2, f 3, f 4, f 5, f 6, f 7, f 8, f 9, f 10, f 11, f 12, f 13, f 14, f 15] 52 (0, 0))))
                              have HNB := Lib.hid (HNB0.out (by omega))
                              have h1i : (1 : Int) < F.length := by omega
                              go_wp2_with fail
                              refine wp_region_noPanic ?_
                              refine wp_region_held_drew (S := fun W => W.cell? ⟨ga, oa + q, none⟩ = some (sv s) ∧ W.cell? ⟨gw, ow + q, none⟩ = some (sv (lineM c 65535 s)) ∧ W.heap[g]? = some (.cells #[f 0, f 1, f 2, f 3, f 4, f 5, f 6, f 7, f 8, f 9, f 10, f 11, f 12, f 13, f 14, f 15] 52 (0, 0))) (by kernel_rfl) (HS36.out _ (HK.out.drew)) (fun hHeld => ?_)
                              refine wpAnyH_take (i := 0) (oi := { dst := some 176, op := Op.move (Operand.tmp 22), type := 3, pos := "meaning.go:67", after := #[], guard := none }) (v := ?_) rfl (by kernel_rfl) (by kernel_rfl) (by kernel_rfl) (fun _ _ _ h => h) (Or.inl ⟨by rfl, ?_⟩) (by assumption) ?_
                              rotate_left
                              · intro W hSw
                                obtain ⟨s0, s1, -⟩ := hSw
                                go_simp
                                try with_reducible rfl
                              simp only [Act.put, List.setIfInBounds_toArray, List.set_cons_zero, List.set_cons_succ]
                              refine wpAnyH_take (i := 1) (oi := { dst := some 177, op := Op.binOp BinOp.leq 3 (Operand.tmp 176) (Operand.const (Value.int IntKind.i64 16)) 3, type := 4, pos := "meaning.go:67", after := #[{ on := 0, ground := Ground.data }], guard := none }) (v := ?_) rfl (by kernel_rfl) (by kernel_rfl) (by kernel_rfl) (fun _ _ _ h => h) (Or.inl ⟨by rfl, ?_⟩) (by assumption) ?_
                              rotate_left
                              · intro W hSw
                                obtain ⟨s0, s1, -⟩ := hSw
                                go_simp
                                try with_reducible rfl
                              simp only [Act.put, List.setIfInBounds_toArray, List.set_cons_zero, List.set_cons_succ]
                              refine wpAnyH_take (i := 2) (oi := { dst := some 178, op := Op.move (Operand.tmp 177), type := 4, pos := "meaning.go:67", after := #[{ on := 1, ground := Ground.data }], guard := none }) (v := ?_) rfl (by kernel_rfl) (by kernel_rfl) (by kernel_rfl) (fun _ _ _ h => h) (Or.inl ⟨by rfl, ?_⟩) (by assumption) ?_
                              rotate_left
                              · intro W hSw
                                obtain ⟨s0, s1, -⟩ := hSw
                                go_simp
                                try with_reducible rfl
                              simp only [Act.put, List.setIfInBounds_toArray, List.set_cons_zero, List.set_cons_succ]
                              refine wpAnyH_take (i := 3) (oi := { dst := some 179, op := Op.move (Operand.tmp 24), type := 9, pos := "meaning.go:67", after := #[{ on := 2, ground := Ground.guard }], guard := some (2, true) }) (v := undef) rfl (by kernel_rfl) (by kernel_rfl) (by kernel_rfl) (fun _ _ _ h => h) (Or.inr ⟨by rfl, rfl⟩) (by assumption) ?_
                              simp only [Act.put, List.setIfInBounds_toArray, List.set_cons_zero, List.set_cons_succ]
                              refine wpAnyH_take (i := 4) (oi := { dst := some 180, op := Op.move (Operand.tmp 8), type := 49, pos := "meaning.go:67", after := #[{ on := 2, ground := Ground.guard }], guard := some (2, true) }) (v := undef) rfl (by kernel_rfl) (by kernel_rfl) (by kernel_rfl) (fun _ _ _ h => h) (Or.inr ⟨by rfl, rfl⟩) (by assumption) ?_
                              simp only [Act.put, List.setIfInBounds_toArray, List.set_cons_zero, List.set_cons_succ]
                              refine wpAnyH_take (i := 5) (oi := { dst := some 181, op := Op.move (Operand.tmp 21), type := 3, pos := "meaning.go:67", after := #[{ on := 2, ground := Ground.guard }], guard := some (2, true) }) (v := undef) rfl (by kernel_rfl) (by kernel_rfl) (by kernel_rfl) (fun _ _ _ h => h) (Or.inr ⟨by rfl, rfl⟩) (by assumption) ?_
                              simp only [Act.put, List.setIfInBounds_toArray, List.set_cons_zero, List.set_cons_succ]
                              refine wpAnyH_take (i := 6) (oi := { dst := some 182, op := Op.indexAddr 49 (Operand.tmp 180) (Operand.tmp 181), type := 0, pos := "meaning.go:67", after := #[{ on := 4, ground := Ground.data }, { on := 5, ground := Ground.data }, { on := 2, ground := Ground.guard }], guard := some (2, true) }) (v := undef) rfl (by kernel_rfl) (by kernel_rfl) (by kernel_rfl) (fun _ _ _ h => h) (Or.inr ⟨by rfl, rfl⟩) (by assumption) ?_
                              simp only [Act.put, List.setIfInBounds_toArray, List.set_cons_zero, List.set_cons_succ]
                              refine wpAnyH_take (i := 7) (oi := { dst := some 183, op := Op.load 9 (Operand.tmp 182), type := 9, pos := "meaning.go:67", after := #[{ on := 6, ground := Ground.data }, { on := 2, ground := Ground.guard }], guard := some (2, true) }) (v := undef) rfl (by kernel_rfl) (by kernel_rfl) (by kernel_rfl) (fun _ _ _ h => h) (Or.inr ⟨by rfl, rfl⟩) (by assumption) ?_
                              simp only [Act.put, List.setIfInBounds_toArray, List.set_cons_zero, List.set_cons_succ]
                              refine wpAnyH_take (i := 8) (oi := { dst := some 184, op := Op.binOp BinOp.neq 9 (Operand.tmp 179) (Operand.tmp 183) 9, type := 4, pos := "meaning.go:67", after := #[{ on := 3, ground := Ground.data }, { on := 7, ground := Ground.data }, { on := 2, ground := Ground.guard }], guard := some (2, true) }) (v := undef) rfl (by kernel_rfl) (by kernel_rfl) (by kernel_rfl) (fun _ _ _ h => h) (Or.inr ⟨by rfl, rfl⟩) (by assumption) ?_
                              simp only [Act.put, List.setIfInBounds_toArray, List.set_cons_zero, List.set_cons_succ]
                              refine wpAnyH_take (i := 9) (oi := { dst := some 185, op := Op.move (Operand.tmp 184), type := 4, pos := "meaning.go:67", after := #[{ on := 8, ground := Ground.data }, { on := 2, ground := Ground.chain }, { on := 2, ground := Ground.guard }], guard := some (2, true) }) (v := undef) rfl (by kernel_rfl) (by kernel_rfl) (by kernel_rfl) (fun _ _ _ h => h) (Or.inr ⟨by rfl, rfl⟩) (by assumption) ?_
                              simp only [Act.put, List.setIfInBounds_toArray, List.set_cons_zero, List.set_cons_succ]
                              refine wpAnyH_take (i := 10) (oi := { dst := some 186, op := Op.move (Operand.tmp 19), type := 49, pos := "meaning.go:67", after := #[{ on := 9, ground := Ground.guard }], guard := some (9, false) }) (v := undef) rfl (by kernel_rfl) (by kernel_rfl) (by kernel_rfl) (fun _ _ _ h => h) (Or.inr ⟨by rfl, rfl⟩) (by assumption) ?_
                              simp only [Act.put, List.setIfInBounds_toArray, List.set_cons_zero, List.set_cons_succ]
                              refine wpAnyH_take (i := 11) (oi := { dst := some 187, op := Op.move (Operand.tmp 21), type := 3, pos := "meaning.go:67", after := #[{ on := 9, ground := Ground.guard }], guard := some (9, false) }) (v := undef) rfl (by kernel_rfl) (by kernel_rfl) (by kernel_rfl) (fun _ _ _ h => h) (Or.inr ⟨by rfl, rfl⟩) (by assumption) ?_
                              simp only [Act.put, List.setIfInBounds_toArray, List.set_cons_zero, List.set_cons_succ]
                              refine wpAnyH_take (i := 12) (oi := { dst := some 188, op := Op.indexAddr 49 (Operand.tmp 186) (Operand.tmp 187), type := 0, pos := "meaning.go:67", after := #[{ on := 10, ground := Ground.data }, { on := 11, ground := Ground.data }, { on := 9, ground := Ground.guard }], guard := some (9, false) }) (v := undef) rfl (by kernel_rfl) (by kernel_rfl) (by kernel_rfl) (fun _ _ _ h => h) (Or.inr ⟨by rfl, rfl⟩) (by assumption) ?_
                              simp only [Act.put, List.setIfInBounds_toArray, List.set_cons_zero, List.set_cons_succ]
                              refine wpAnyH_take (i := 13) (oi := { dst := some 189, op := Op.load 9 (Operand.tmp 188), type := 9, pos := "meaning.go:67", after := #[{ on := 12, ground := Ground.data }, { on := 9, ground := Ground.guard }], guard := some (9, false) }) (v := undef) rfl (by kernel_rfl) (by kernel_rfl) (by kernel_rfl) (fun _ _ _ h => h) (Or.inr ⟨by rfl, rfl⟩) (by assumption) ?_
                              simp only [Act.put, List.setIfInBounds_toArray, List.set_cons_zero, List.set_cons_succ]
                              refine wpAnyH_take (i := 14) (oi := { dst := some 190, op := Op.move (Operand.tmp 8), type := 49, pos := "meaning.go:67", after := #[{ on := 9, ground := Ground.guard }], guard := some (9, false) }) (v := undef) rfl (by kernel_rfl) (by kernel_rfl) (by kernel_rfl) (fun _ _ _ h => h) (Or.inr ⟨by rfl, rfl⟩) (by assumption) ?_
                              simp only [Act.put, List.setIfInBounds_toArray, List.set_cons_zero, List.set_cons_succ]
                              refine wpAnyH_take (i := 15) (oi := { dst := some 191, op := Op.move (Operand.tmp 21), type := 3, pos := "meaning.go:67", after := #[{ on := 9, ground := Ground.guard }], guard := some (9, false) }) (v := undef) rfl (by kernel_rfl) (by kernel_rfl) (by kernel_rfl) (fun _ _ _ h => h) (Or.inr ⟨by rfl, rfl⟩) (by assumption) ?_
                              simp only [Act.put, List.setIfInBounds_toArray, List.set_cons_zero, List.set_cons_succ]
                              refine wpAnyH_take (i := 16) (oi := { dst := some 192, op := Op.indexAddr 49 (Operand.tmp 190) (Operand.tmp 191), type := 0, pos := "meaning.go:67", after := #[{ on := 14, ground := Ground.data }, { on := 15, ground := Ground.data }, { on := 9, ground := Ground.guard }], guard := some (9, false) }) (v := undef) rfl (by kernel_rfl) (by kernel_rfl) (by kernel_rfl) (fun _ _ _ h => h) (Or.inr ⟨by rfl, rfl⟩) (by assumption) ?_
                              simp only [Act.put, List.setIfInBounds_toArray, List.set_cons_zero, List.set_cons_succ]
                              refine wpAnyH_take (i := 17) (oi := { dst := some 193, op := Op.load 9 (Operand.tmp 192), type := 9, pos := "meaning.go:67", after := #[{ on := 16, ground := Ground.data }, { on := 9, ground := Ground.guard }], guard := some (9, false) }) (v := undef) rfl (by kernel_rfl) (by kernel_rfl) (by kernel_rfl) (fun _ _ _ h => h) (Or.inr ⟨by rfl, rfl⟩) (by assumption) ?_
                              simp only [Act.put, List.setIfInBounds_toArray, List.set_cons_zero, List.set_cons_succ]
                              refine wpAnyH_take (i := 18) (oi := { dst := some 194, op := Op.binOp BinOp.neq 9 (Operand.tmp 189) (Operand.tmp 193) 9, type := 4, pos := "meaning.go:67", after := #[{ on := 13, ground := Ground.data }, { on := 17, ground := Ground.data }, { on := 9, ground := Ground.guard }], guard := some (9, false) }) (v := undef) rfl (by kernel_rfl) (by kernel_rfl) (by kernel_rfl) (fun _ _ _ h => h) (Or.inr ⟨by rfl, rfl⟩) (by assumption) ?_
                              simp only [Act.put, List.setIfInBounds_toArray, List.set_cons_zero, List.set_cons_succ]
                              refine wpAnyH_take (i := 19) (oi := { dst := some 195, op := Op.pick (Operand.tmp 185) (Operand.const (Value.bool true)) (Operand.tmp 194), type := 4, pos := "meaning.go:67", after := #[{ on := 9, ground := Ground.data }, { on := 18, ground := Ground.data }, { on := 2, ground := Ground.guard }], guard := some (2, true) }) (v := undef) rfl (by kernel_rfl) (by kernel_rfl) (by kernel_rfl) (fun _ _ _ h => h) (Or.inr ⟨by rfl, rfl⟩) (by assumption) ?_
                              simp only [Act.put, List.setIfInBounds_toArray, List.set_cons_zero, List.set_cons_succ]
                              refine wpAnyH_take (i := 20) (oi := { dst := some 196, op := Op.pick (Operand.tmp 178) (Operand.tmp 195) (Operand.const (Value.bool false)), type := 4, pos := "meaning.go:67", after := #[{ on := 2, ground := Ground.data }, { on := 19, ground := Ground.data }], guard := none }) (v := ?_) rfl (by kernel_rfl) (by kernel_rfl) (by kernel_rfl) (fun _ _ _ h => h) (Or.inl ⟨by rfl, ?_⟩) (by assumption) ?_
                              rotate_left
                              · intro W hSw
                                obtain ⟨s0, s1, -⟩ := hSw
                                go_simp
                                try with_reducible rfl
                              simp only [Act.put, List.setIfInBounds_toArray, List.set_cons_zero, List.set_cons_succ]
                              refine wpAnyH_take (i := 21) (oi := { dst := some 197, op := Op.move (Operand.tmp 196), type := 4, pos := "meaning.go:67", after := #[{ on := 20, ground := Ground.data }, { on := 9, ground := Ground.chain }], guard := none }) (v := ?_) rfl (by kernel_rfl) (by kernel_rfl) (by kernel_rfl) (fun _ _ _ h => h) (Or.inl ⟨by rfl, ?_⟩) (by assumption) ?_
                              rotate_left
                              · intro W hSw
                                obtain ⟨s0, s1, -⟩ := hSw
                                go_simp
                                try with_reducible rfl
                              simp only [Act.put, List.setIfInBounds_toArray, List.set_cons_zero, List.set_cons_succ]
                              refine wpAnyH_take (i := 22) (oi := { dst := some 198, op := Op.move (Operand.tmp 22), type := 3, pos := "meaning.go:67", after := #[{ on := 21, ground := Ground.guard }], guard := some (21, false) }) (v := ?_) rfl (by kernel_rfl) (by kernel_rfl) (by kernel_rfl) (fun _ _ _ h => h) (Or.inl ⟨by rfl, ?_⟩) (by assumption) ?_
                              rotate_left
                              · intro W hSw
                                obtain ⟨s0, s1, -⟩ := hSw
                                go_simp
                                try with_reducible rfl
                              simp only [Act.put, List.setIfInBounds_toArray, List.set_cons_zero, List.set_cons_succ]
                              refine wpAnyH_take (i := 23) (oi := { dst := some 199, op := Op.binOp BinOp.gtr 3 (Operand.tmp 198) (Operand.const (Value.int IntKind.i64 1)) 3, type := 4, pos := "meaning.go:67", after := #[{ on := 22, ground := Ground.data }, { on := 21, ground := Ground.guard }], guard := some (21, false) }) (v := ?_) rfl (by kernel_rfl) (by kernel_rfl) (by kernel_rfl) (fun _ _ _ h => h) (Or.inl ⟨by rfl, ?_⟩) (by assumption) ?_
                              rotate_left
                              · intro W hSw
                                obtain ⟨s0, s1, -⟩ := hSw
                                go_simp
                                try with_reducible rfl
                              simp only [Act.put, List.setIfInBounds_toArray, List.set_cons_zero, List.set_cons_succ]
                              refine wpAnyH_take (i := 24) (oi := { dst := some 200, op := Op.move (Operand.tmp 199), type := 4, pos := "meaning.go:67", after := #[{ on := 23, ground := Ground.data }, { on := 21, ground := Ground.chain }, { on := 21, ground := Ground.guard }], guard := some (21, false) }) (v := ?_) rfl (by kernel_rfl) (by kernel_rfl) (by kernel_rfl) (fun _ _ _ h => h) (Or.inl ⟨by rfl, ?_⟩) (by assumption) ?_
                              rotate_left
                              · intro W hSw
                                obtain ⟨s0, s1, -⟩ := hSw
                                go_simp
                                try with_reducible rfl
                              simp only [Act.put, List.setIfInBounds_toArray, List.set_cons_zero, List.set_cons_succ]
                              refine wpAnyH_take (i := 25) (oi := { dst := some 201, op := Op.move (Operand.tmp 0), type := 5, pos := "meaning.go:67", after := #[{ on := 24, ground := Ground.guard }], guard := some (24, true) }) (v := ?_) rfl (by kernel_rfl) (by kernel_rfl) (by kernel_rfl) (fun _ _ _ h => h) (Or.inl ⟨by rfl, ?_⟩) (by assumption) ?_
                              rotate_left
                              · intro W hSw
                                obtain ⟨s0, s1, -⟩ := hSw
                                go_simp
                                try with_reducible rfl
                              simp only [Act.put, List.setIfInBounds_toArray, List.set_cons_zero, List.set_cons_succ]
                              refine wpAnyH_take (i := 26) (oi := { dst := some 202, op := Op.move (Operand.tmp 21), type := 3, pos := "meaning.go:67", after := #[{ on := 24, ground := Ground.guard }], guard := some (24, true) }) (v := ?_) rfl (by kernel_rfl) (by kernel_rfl) (by kernel_rfl) (fun _ _ _ h => h) (Or.inl ⟨by rfl, ?_⟩) (by assumption) ?_
                              rotate_left
                              · intro W hSw
                                obtain ⟨s0, s1, -⟩ := hSw
                                go_simp
                                try with_reducible rfl
                              simp only [Act.put, List.setIfInBounds_toArray, List.set_cons_zero, List.set_cons_succ]
                              refine wpAnyH_take (i := 27) (oi := { dst := some 203, op := Op.load 52 (Operand.tmp 10), type := 52, pos := "meaning.go:67", after := #[{ on := 24, ground := Ground.guard }], guard := some (24, true) }) (v := .agg #[f 0, f 1, f 2, f 3, f 4, f 5, f 6, f 7, f 8, f 9, f 10, f 11, f 12, f 13, f 14, f 15]) rfl (by kernel_rfl) (by kernel_rfl) (by kernel_rfl) (fun _ _ _ h => h) (yieldsIf_load_mid (by rfl) 52 (.tmp 10) rfl g 0 rfl [f 0, f 1, f 2, f 3, f 4, f 5, f 6, f 7, f 8, f 9, f 10, f 11, f 12, f 13, f 14, f 15] _ (fun W hW => range_of_row hW.2.2) Tryd.underlying52 rfl (by kernel_rfl)) (by assumption) ?_
                              simp only [Act.put, List.setIfInBounds_toArray, List.set_cons_zero, List.set_cons_succ]
                              refine wpAnyH_ready (rs := [28]) (by kernel_rfl) (by simp) ?_
                              refine AllReadyH.cons (o := { dst := some 204, op := Op.call { callee := Callee.value (Operand.func 18), args := #[Operand.tmp 201, Operand.tmp 202, Operand.tmp 203], argTypes := #[5, 3, 52] }, type := 4, pos := "meaning.go:67", after := #[{ on := 25, ground := Ground.data }, { on := 26, ground := Ground.data }, { on := 27, ground := Ground.data }, { on := 24, ground := Ground.chain }, { on := 24, ground := Ground.guard }], guard := some (24, true) }) rfl (fun K hK => ?_) (AllReadyH.nil)
                              go_simp
                              go_at_call 18
                              refine (HBR.out _ (HK.out.drew) HNB.out).mono ?_
                              rintro e7 w7 ⟨rfl, hf7⟩
                              have HK7 := Lib.hid ((HK.out.drew).trans hf7)
                              go_wp2_with fail
                              refine hK.out _ _ (HS36.out _ HK7.out) (fun hHeld => ?_)
                              clear hK K
                              refine wpAnyH_take (i := 29) (oi := { dst := some 205, op := Op.unOp UnOp.not 4 (Operand.tmp 204), type := 4, pos := "meaning.go:67", after := #[{ on := 28, ground := Ground.data }, { on := 24, ground := Ground.guard }], guard := some (24, true) }) (v := ?_) rfl (by kernel_rfl) (by kernel_rfl) (by kernel_rfl) (fun _ _ _ h => h) (Or.inl ⟨by rfl, ?_⟩) (by assumption) ?_
                              rotate_left
                              · intro W hSw
                                obtain ⟨s0, s1, -⟩ := hSw
                                go_simp
                                try with_reducible rfl
                              simp only [Act.put, List.setIfInBounds_toArray, List.set_cons_zero, List.set_cons_succ]
                              refine wpAnyH_take (i := 30) (oi := { dst := some 206, op := Op.pick (Operand.tmp 200) (Operand.tmp 205) (Operand.const (Value.bool false)), type := 4, pos := "meaning.go:67", after := #[{ on := 24, ground := Ground.data }, { on := 29, ground := Ground.data }, { on := 21, ground := Ground.guard }], guard := some (21, false) }) (v := ?_) rfl (by kernel_rfl) (by kernel_rfl) (by kernel_rfl) (fun _ _ _ h => h) (Or.inl ⟨by rfl, ?_⟩) (by assumption) ?_
                              rotate_left
                              · intro W hSw
                                obtain ⟨s0, s1, -⟩ := hSw
                                go_simp
                                try with_reducible rfl
                              simp only [Act.put, List.setIfInBounds_toArray, List.set_cons_zero, List.set_cons_succ]
                              refine wpAnyH_take (i := 31) (oi := { dst := some 207, op := Op.pick (Operand.tmp 197) (Operand.const (Value.bool true)) (Operand.tmp 206), type := 4, pos := "meaning.go:67", after := #[{ on := 21, ground := Ground.data }, { on := 30, ground := Ground.data }], guard := none }) (v := ?_) rfl (by kernel_rfl) (by kernel_rfl) (by kernel_rfl) (fun _ _ _ h => h) (Or.inl ⟨by rfl, ?_⟩) (by assumption) ?_
                              rotate_left
                              · intro W hSw
                                obtain ⟨s0, s1, -⟩ := hSw
                                go_simp
                                try with_reducible rfl
                              simp only [Act.put, List.setIfInBounds_toArray, List.set_cons_zero, List.set_cons_succ]
                              refine wpAnyH_done (by kernel_rfl) ?_ _
                              refine NoPanic.normal ?_
                              go_wp2
                              go_roundw
                              case rel => exact ⟨q + 1, by omega, by go_num, HK7⟩
                              case measure => simp [intOf]; omega
                  · obtain rfl : q = ls.length := by omega
                    go_wp2_with (first
                      | (go_at_call 11; refine (awake_any _ (HG0.out.no ((KW.out.trans HX6.out).trans HQ.out))).mono ?_; rintro e9 w9 ⟨rfl, hf9⟩))
                    go_ret
                    exact ⟨rfl, ((KW.out.trans HX6.out).trans HQ.out).trans hf9⟩
              · have hnp : ¬ (0 : Int) < ls.length := by omega
                have hnd : decide ((0 : Int) < ls.length) = false := decide_eq_false hnp
                go_wp2_with (first
                  | (go_at_call 17; have HH := HTA.out (wr.alloc (.cells #[.slice ba b.length bc] 22)) (KW.out.alloc (.cells #[.slice ba b.length bc] 22)) (at_no HA.out ((Fr.refl No wr).alloc (.cells #[.slice ba b.length bc] 22))) wr.heap.size (by simp)
                     refine HH.mono ?_; rintro e5 w5 ⟨held, taken, rfl, hf5⟩
                     have HX5 := Lib.hid (((Fr.refl No wr).alloc (.cells #[.slice ba b.length bc] 22)).trans hf5)
                     clear hf5 HH
                     dsimp only [gotC])
                  | (go_at_call 16; refine (lines_out _ _ o col ls.length (Lib.bytesWorld (w5.alloc (.cells #[sv o, sv [], sv [], sv [], .int .i64 (-1), .int .i64 0, .int .i64 held, .int .i64 taken, .int .i64 0, .int .i64 0, .int .i64 0, .bool false] 45)) 5 ⟨o.toArray⟩) (bytes_new w5 (.cells #[sv o, sv [], sv [], sv [], .int .i64 (-1), .int .i64 0, .int .i64 held, .int .i64 taken, .int .i64 0, .int .i64 0, .int .i64 0, .bool false] 45) o) HOJ.out HFC.out HCL.out (by omega) (grownCap_ge _ _ _ _)).mono ?_
                     rintro e6 w6 ⟨a6, c6, rfl, hat6, hf6⟩
                     have HX6 := Lib.hid (((HX5.out.alloc (.cells #[sv o, sv [], sv [], sv [], .int .i64 (-1), .int .i64 0, .int .i64 held, .int .i64 taken, .int .i64 0, .int .i64 0, .int .i64 0, .bool false] 45)).trans (bytes_fr (w5.alloc (.cells #[sv o, sv [], sv [], sv [], .int .i64 (-1), .int .i64 0, .int .i64 held, .int .i64 taken, .int .i64 0, .int .i64 0, .int .i64 0, .bool false] 45)) ⟨o.toArray⟩)).trans hf6)
                     have HAT6 := Lib.hid hat6
                     clear hf6 hat6))
                go_loopw [21] (fun i W => ∃ q : Nat, q ≤ ls.length ∧ i = .int .i64 q ∧ Hid (Fr No w6 W)) (fun i _ => ls.length - (intOf i).toNat)
                case atStart => exact ⟨0, by omega, rfl, Lib.hid (Fr.refl _ _)⟩
                case round =>
                  obtain ⟨q, hq, rfl, HQ⟩ := hrel
                  obtain rfl : q = ls.length := by omega
                  go_wp2_with (first
                    | (go_at_call 11; refine (awake_any _ (HG0.out.no ((KW.out.trans HX6.out).trans HQ.out))).mono ?_; rintro e9 w9 ⟨rfl, hf9⟩))
                  go_ret
                  exact ⟨rfl, ((KW.out.trans HX6.out).trans HQ.out).trans hf9⟩
end Go.Proofs.YtjnebkoohimgjaaDoor

/- FieldsParts, as the lift wants it. -/
namespace Go.Proofs.YtjnebkoohimgjaaDoor
open Go.RowKit

theorem byte_of (n : Int) (h : (Lit.int .u8 n).wf = true) : ∃ c : UInt8, n = c.toNat := by
  have hr : 0 ≤ n ∧ n < 256 := by
    have h' : (decide (IntKind.u8.min ≤ n) && decide (n ≤ IntKind.u8.max)) = true := h
    simp only [Bool.and_eq_true, decide_eq_true_eq] at h'
    have h1 : IntKind.u8.min = 0 := by rfl
    have h2 : IntKind.u8.max = 255 := by rfl
    omega
  exact ⟨UInt8.ofNat n.toNat, by simp; omega⟩
theorem walk_fieldsParts (w : World) (hG : GM w) (n : Int) (hn : (Lit.int .u8 n).wf = true) {v1 v2 : Value} (b : List UInt8) (hb : IsB w v1 b) (cuts : List Int) (hc : IsInts w v2 cuts) : Calls Tryd.prog 4 #[.int .u8 n, v1, v2] w (TruePost w) := by
  obtain ⟨c, rfl⟩ := byte_of n hn
  obtain ⟨ba, bc, rfl, hbc, _, hb, _⟩ := hb
  obtain ⟨ca, cc, rfl, hca⟩ := hc
  exact core_fieldsParts w hG c ba bc b ca cc cuts hb hbc hca
end Go.Proofs.YtjnebkoohimgjaaDoor

