/- FilesPlays, walked. -/
import Derived.Test.YtljldkknopmfhaaFilY
import Derived.Test.YtljldkknopmfhaaFilW
import Derived.Deep.RegionHeld3
namespace Go.Proofs.Ytljldkknopmfhaa
open Go.RowKit Go.Maps Go

def PJ (w0 : World) (d r : Nat) (S : List (Int × Int)) (i : Nat) (w : World) : Prop := ∃ st t1 X1 t2 X2, PI w0 d r S st st t1 X1 t2 X2 w ∧ Fine st i
theorem pj_start {w w2 w3 : World} {d : Nat} {S : List (Int × Int)} {t1 : Nat → Nat} {X1 : DX} {sa : Option Addr} {sc : Nat} (h : DRep w2 d S ds0 t1 X1) (f : Fr No w w2) (h1 : ∀ b, b < w.heap.size → t1 b = 0) (hs : At w sa (scr S)) (hlt : ∀ g off, sa = some ⟨g, off, none⟩ → 0 < S.length → g < w.heap.size)
    (hw3 : w3 = w2.alloc (.cells #[.slice sa S.length sc, .slice none 0 0, .slice none 0 0, .int .i64 0, .int .i64 0] 54)) : PJ w d w2.heap.size S 0 w3 := by
  subst hw3
  have fw := f.size
  refine ⟨ds0, t1, X1, fun b => if b = w2.heap.size then 1 else 0, ⟨sa, sc, none, 0, none, 0⟩, ⟨h.fr ((Fr.refl No w2).alloc _) (fun _ _ _ x => x), ⟨fun b hb => ?_, heap_alloc_new w2 _, if_pos rfl, OwnSl.nil _ _ _, by simp [Value.ownBlock], OwnSl.nil _ _ _, by simp [Value.ownBlock], at_nf hs (f.alloc _), fun g off e h0 => ?_⟩, fun b hb => ?_, h1, fun b hb => if_neg (by omega), f.alloc _, hlt⟩, fine0⟩
  · by_cases e : b = w2.heap.size
    · rw [e]; simp
    · exact absurd (if_neg e) hb
  · have := hlt g off e h0
    exact if_neg (by omega)
  · have := h.lt b hb
    exact if_neg (by omega)
set_option maxHeartbeats 8000000 in
set_option maxRecDepth 100000 in
theorem core_filesPlays (w : World) (sa : Option Addr) (sc : Nat) (S : List (Int × Int)) (la : Option Addr) (lc : Nat) (l : List Cl) (hs : At w sa (scr S)) (hl : At w la (l.flatMap Cl.cells))
    (hq : ∀ x ∈ l, At w x.a (x.b.map bv) ∧ (Lit.int .i64 x.what).wf = true ∧ (Lit.int .i64 x.no).wf = true ∧ (Lit.int .i64 x.pos).wf = true ∧ (Lit.int .i64 x.most).wf = true) :
    Calls Try.prog 8 #[.slice sa S.length sc, .slice la l.length lc] w (TruePost w) := by
  classical
  have HH := Lib.hid (heavyF_any S l sa sc la lc w hl)
  by_cases hh : heavyF S l
  · rw [decide_eq_true hh] at HH
    clear hh hs hl hq
    go_enter Try.func8, Try.ntmps8
    go_wp2_with (first
      | (go_at_call 16; refine HH.out.mono ?_; rintro e1 w1 ⟨rfl, rfl⟩)
      | (go_at_call 17; refine (awake_any _).mono ?_; rintro e2 w2 ⟨rfl, hf2⟩))
    go_ret
    exact ⟨rfl, hf2⟩
  · rw [decide_eq_false hh] at HH
    obtain ⟨j0, hj, jz0, jz1, jz2⟩ := info_parts info_fail
    have hS : S.length ≤ 300 := Nat.le_of_not_lt fun x => hh (.inl x)
    have hL : l.length ≤ 300 := Nat.le_of_not_lt fun x => hh (.inr (.inl x))
    have HB := Lib.hid (show ∀ x ∈ l, x.b.length ≤ 3000 from fun x hx => Nat.le_of_not_lt fun e => hh (.inr (.inr ⟨x, hx, e⟩)))
    have HN := Lib.hid (fun (W : World) (a : Option Addr) (c : Nat) (h : At W a (scr S)) => newF_any a c S W h (by omega))
    have hsl := scr_length S
    have h1s := scr_one S
    have HLT := Lib.hid (show ∀ g off, sa = some ⟨g, off, none⟩ → 0 < S.length → g < w.heap.size from fun g off e h0 => by
      obtain ⟨g', off', e', hr⟩ := hs (by omega)
      rw [e] at e'; injection e' with e'; injection e' with e1 e2; subst e1
      exact hr.lt (by omega))
    have HSA := Lib.hid hs; have HLA := Lib.hid hl; have HQ := Lib.hid hq; have HSL := Lib.hid hsl; have H1S := Lib.hid h1s
    clear hh hs hl hq hsl h1s
    go_enter Try.func8, Try.ntmps8
    go_wp2_with (first
      | (go_at_call 16; refine HH.out.mono ?_; rintro e1 w1 ⟨rfl, rfl⟩)
      | (at_builtin; refine wpList_append_sl rfl (.tmp 13) (.tmp 14) 22 22 rfl 76 j0 (.agg #[.int .i64 0, .int .i64 0]) 2 16 Try.underlying22 hj jz0 jz1 jz2 rfl (by decide) (.slice (some ⟨w.heap.size, 0, none⟩) 0 0) 0 [] rfl (own_empty w 76 2) _ S.length (scr S) rfl (src_slice Try.underlying22 HSL.out (at_nf HSA.out ((Fr.refl No w).alloc _)) H1S.out) (by omega) (by omega) ?_
         intro v1 w1 hown1 hfr1 hblk1
         obtain ⟨a1, c1, rfl, _, _⟩ := hown1.at
         (try rw [List.nil_append] at hown1)
         have f1 : Fr No w w1 := ((Fr.refl No w).alloc _).step hfr1 (fun b o hb e => by
           have e' : some w.heap.size = some b := e
           injection e' with e'; omega)
         have hat1 : At w1 a1 (scr S) := (by obtain ⟨a', c', e', hat, -⟩ := hown1.at; cases e'; exact hat)
         have F1 := Lib.hid f1; have HAT1 := Lib.hid hat1
         (try rw [Nat.zero_add])
         clear hown1 hfr1 hblk1 f1 hat1)
      | (go_at_call 18; refine (HN.out _ _ _ HAT1.out).mono ?_; rintro e2 w2 ⟨d, t2, X2, rfl, hr2, hf2, ht2⟩
         have HR2 := Lib.hid hr2; have HF2 := Lib.hid (F1.out.trans hf2)
         have HT2 := Lib.hid (show ∀ b, b < w.heap.size → t2 b = 0 from fun b hb => ht2 b (Nat.lt_of_lt_of_le hb F1.out.size)); clear hr2 hf2 ht2))
    obtain ⟨w3, hw3⟩ : ∃ w3, w3 = w2.alloc (.cells #[.slice sa S.length sc, .slice none 0 0, .slice none 0 0, .int .i64 0, .int .i64 0] 54) := ⟨_, rfl⟩
    have HJ0 := Lib.hid (pj_start HR2.out HF2.out HT2.out HSA.out HLT.out hw3)
    rw [← hw3]
    generalize w2.heap.size = r at *
    clear hw3
    go_loopw [8] (fun i wr => ∃ k : Nat, k ≤ l.length ∧ i = .int .i64 k ∧ Hid (PJ w d r S k wr)) (fun i _ => l.length - (intOf i).toNat)
    case atStart => exact ⟨0, Nat.zero_le _, rfl, HJ0⟩
    case round =>
      obtain ⟨k, hk, rfl, HK⟩ := hrel
      by_cases hlt : k < l.length
      · obtain ⟨st, t1, X1, t2', X2', hP, hFi⟩ := HK.out
        have HP := Lib.hid hP; have HFI := Lib.hid hFi; clear HK
        have hat := at_nf HLA.out hP.fr
        clear hP hFi
        obtain ⟨gl, offl, rfl, hrl⟩ := hat.flat cl_len (by decide) (by omega)
        obtain ⟨l0, l1, l2, l3, l4⟩ := cl_cells hrl hlt
        have hki : (k : Int) < l.length := by omega
        have hmem := List.getElem_mem hlt
        obtain ⟨ha, y0, y1, y2, y3⟩ := HQ.out _ hmem
        have HSM := Lib.hid (fun (W : World) (h : PI w d r S st st t1 X1 t2' X2' W) => same_any w d r S st t1 X1 t2' X2' W h k HFI.out (by omega) hS l[k] ha (HB.out _ hmem) y0 y1)
        clear ha hmem hrl hat y0 y1 y2 y3
        generalize l[k] = x at *
        have FD : Fr No wr wr.drew := (Fr.refl _ _).drew
        have HP0 := Lib.hid (HP.out.keep FD)
        clear HP FD
        go_wp2_with fail
        go_region_law (first
          | (go_simp; go_at_call 35; refine (HSM.out _ HP0.out).mono ?_; rintro e3 w3 ⟨rfl, st3, t3, X3, t3', X3', hP3, hF3⟩
             have HP3 := Lib.hid hP3; have HF3 := Lib.hid hF3
             have h64 := hF3.most; have hln := hF3.len
             have hll : st3.live.length ≤ 100000 := (by have := liveFrom_len st3.there 0; have e : st3.live.length = (liveFrom st3.there 0).length := rfl; omega)
             clear hP3 hF3)
          | (go_simp; go_at_call 37; refine (live_any d S st3 t3 X3 _ HP3.out.rep1 hln h64).mono ?_; rintro e4 w4 ⟨a4, c4, rfl, hat4, hf4⟩
             have HP4 := Lib.hid (HP3.out.keep hf4); have HA4 := Lib.hid hat4; clear hat4 hf4)
          | (go_simp; go_at_call 38; refine (rlive_any r S st3 t3' X3' _ HP4.out.rep2 (by omega)).mono ?_; rintro e5 w5 ⟨a5, c5, rfl, hat5, hf5⟩
             have HP5 := Lib.hid (HP4.out.keep hf5); have HA5 := Lib.hid hat5; have HA45 := Lib.hid (at_nf HA4.out hf5); clear hat5 hf5)
          | (go_simp; go_at_call 36; refine (ints_same a4 a5 c4 c5 st3.live _ HA45.out HA5.out hll).mono ?_; rintro e6 w6 ⟨rfl, hf6⟩
             have HP6 := Lib.hid (HP5.out.keep hf6); clear hf6
             obtain ⟨-, -, -, g3, g4, -⟩ := cells5 HP6.out.rep2.disk)
          | (go_simp; go_at_call 39; refine (calls_any d S st3 t3 X3 _ HP6.out.rep1).mono ?_; rintro e7 w7 ⟨rfl, hw7⟩; replace hw7 := hw7.symm; subst hw7)
          | (go_simp; go_at_call 40; refine (raw_any d S st3 t3 X3 _ HP6.out.rep1).mono ?_; rintro e8 w8 ⟨rfl, hw8⟩; replace hw8 := hw8.symm; subst hw8))
        all_goals
          go_wp2
          go_roundw
          case rel => exact ⟨k + 1, by omega, by go_num, st3, t3, X3, t3', X3', HP6.out, HF3.out⟩
          case measure => simp [intOf]; omega
      · obtain rfl : k = l.length := by omega
        obtain ⟨st, t1, X1, t2', X2', hP, _⟩ := HK.out
        have HF := Lib.hid hP.fr
        clear hP HK
        go_wp2_with (first
          | (go_at_call 17; refine (awake_any _).mono ?_; rintro e9 w9 ⟨rfl, hf9⟩))
        go_ret
        exact ⟨rfl, HF.out.trans hf9⟩
theorem walk_filesPlays (w : World) {v0 v1 : Value} (S : List (Int × Int)) (hS : IsFails w v0 S) (l : List Cl) (hl : IsCalls w v1 l) : Calls Try.prog 8 #[v0, v1] w (TruePost w) := by
  obtain ⟨sa, sc, rfl, hs, _⟩ := hS
  obtain ⟨la, lc, rfl, ha, hq⟩ := hl
  exact core_filesPlays w sa sc S la lc l hs ha fun x hx => ⟨(hq x hx).1, (hq x hx).2.2⟩
end Go.Proofs.Ytljldkknopmfhaa
