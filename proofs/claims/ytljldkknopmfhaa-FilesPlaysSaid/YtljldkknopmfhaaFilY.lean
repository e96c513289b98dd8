/- Both disks, side by side: do they answer a call alike? -/
import Derived.Test.YtljldkknopmfhaaFilX
import Derived.Test.YtljldkknopmfhaaFilK
import Derived.Test.YtljldkknopmfhaaFilN
namespace Go.Proofs.Ytljldkknopmfhaa
open Go.RowKit Go.Maps Go

theorem own_empty_g (w : World) (e : TypeId) (size g : Nat) (hg : g = w.heap.size) : OwnSl (w.alloc (.cells #[] e)) e size (.slice (some ⟨g, 0, none⟩) 0 0) 0 [] := by subst hg; exact own_empty w e size
structure PI (w0 : World) (d r : Nat) (S : List (Int × Int)) (s1 s2 : DS) (t1 : Nat → Nat) (X1 : DX) (t2 : Nat → Nat) (X2 : RX) (w : World) : Prop where
  rep1 : DRep w d S s1 t1 X1
  rep2 : RRep w r S s2 t2 X2
  disj : ∀ b, t1 b ≠ 0 → t2 b = 0
  low1 : ∀ b, b < w0.heap.size → t1 b = 0
  low2 : ∀ b, b < w0.heap.size → t2 b = 0
  fr : Fr No w0 w
  scr : ∀ g off, X2.sa = some ⟨g, off, none⟩ → 0 < S.length → g < w0.heap.size
section
variable {w0 : World} {d r : Nat} {S : List (Int × Int)} {s1 s2 s1' s2' : DS} {t1 t2 : Nat → Nat} {X1 : DX} {X2 : RX} {w w' : World}
theorem PI.keepT {T : Nat → Nat → Prop} (h : PI w0 d r S s1 s2 t1 X1 t2 X2 w) (f : Fr T w w') (h1 : ∀ b o, t1 b ≠ 0 → ¬ T b o) (h2 : ∀ b o, t2 b ≠ 0 → ¬ T b o) (h0 : ∀ b o, b < w0.heap.size → ¬ T b o) : PI w0 d r S s1 s2 t1 X1 t2 X2 w' :=
  ⟨h.rep1.fr f h1, h.rep2.fr f h2 (fun g off e hp o => h0 g o (h.scr g off e hp)), h.disj, h.low1, h.low2, h.fr.step f (fun b o hb ht => h0 b o hb ht), h.scr⟩
theorem PI.keep (h : PI w0 d r S s1 s2 t1 X1 t2 X2 w) (f : Fr No w w') : PI w0 d r S s1 s2 t1 X1 t2 X2 w' := h.keepT f (fun _ _ _ x => x) (fun _ _ _ x => x) (fun _ _ _ x => x)
theorem PI.one (h : PI w0 d r S s1 s2 t1 X1 t2 X2 w) (l : Left w d S s1' t1 w') : ∃ t1' X1', PI w0 d r S s1' s2 t1' X1' t2 X2 w' ∧ ∀ b, b < w.heap.size → t1' b = t1 b := by
  obtain ⟨t1', X1', h1, h2, h3⟩ := l
  have hw := h.fr.size
  refine ⟨t1', X1', ⟨h1, h.rep2.fr h2 (fun b o hb e => e (Classical.byContradiction fun hn => by have := h.disj b hn; exact hb this)) (fun g off e hp o hn => hn (h.low1 g (h.scr g off e hp))), fun b hb => ?_, fun b hb => (h3 b (by omega)).trans (h.low1 b hb), h.low2,
    h.fr.step h2 (fun b o hb e => e (h.low1 b hb)), h.scr⟩, h3⟩
  by_cases hbl : b < w.heap.size
  · rw [h3 b hbl] at hb; exact h.disj b hb
  · exact Classical.byContradiction fun hn => hbl (h.rep2.lt b hn)
theorem PI.two (h : PI w0 d r S s1 s2 t1 X1 t2 X2 w) (l : RLeft w r S s2' t2 X2.sa w') : ∃ t2' X2', PI w0 d r S s1 s2' t1 X1 t2' X2' w' ∧ ∀ b, b < w.heap.size → t2' b = t2 b := by
  obtain ⟨t2', X2', h0, h1, h2, h3⟩ := l
  have hw := h.fr.size
  refine ⟨t2', X2', ⟨h.rep1.fr h2 (fun b o hb e => e (h.disj b hb)), h1, fun b hb => ?_, h.low1, fun b hb => (h3 b (by omega)).trans (h.low2 b hb), h.fr.step h2 (fun b o hb e => e (h.low2 b hb)), by rw [h0]; exact h.scr⟩, h3⟩
  by_cases hbl : b < w.heap.size
  · rw [h3 b hbl]; exact h.disj b hb
  · exact absurd (h.rep1.lt b hb) hbl
theorem PI.new2 (h : PI w0 d r S s1 s2 t1 X1 t2 X2 w) : ∀ b, w.heap.size ≤ b → t2 b = 0 := fun b hb => Classical.byContradiction fun hn => by have := h.rep2.lt b hn; omega
/-- .. whose parts' places stay. -/
theorem PI.turn1 (h : PI w0 d r S s1 s2 t1 X1 t2 X2 w) (k : DRep w' d S s1' t1 X1) (f : Fr (fun b _ => b = d) w w') : PI w0 d r S s1' s2 t1 X1 t2 X2 w' :=
  ⟨k, h.rep2.fr f (fun b o hb e => by have := h.disj d (by rw [h.rep1.tgd]; decide); rw [e] at hb; exact hb this) (fun g off e hp o hn => by have := h.low1 g (h.scr g off e hp); rw [hn, h.rep1.tgd] at this; cases this), h.disj, h.low1, h.low2,
   h.fr.step f (fun b o hb e => by have := h.low1 b hb; rw [e, h.rep1.tgd] at this; cases this), h.scr⟩
theorem PI.turn2 (h : PI w0 d r S s1 s2 t1 X1 t2 X2 w) (k : RRep w' r S s2' t2 X2) (f : Fr (fun b _ => b = r) w w') : PI w0 d r S s1 s2' t1 X1 t2 X2 w' :=
  ⟨h.rep1.fr f (fun b o hb e => by have := h.disj b hb; rw [e, h.rep2.tgr] at this; cases this), k, h.disj, h.low1, h.low2, h.fr.step f (fun b o hb e => by have := h.low2 b hb; rw [e, h.rep2.tgr] at this; cases this), h.scr⟩
end
def SamePost (w0 : World) (d r : Nat) (S : List (Int × Int)) (i : Nat) (e : Ending) (w' : World) : Prop :=
  e = .returned (.bool true) ∧ ∃ st t1 X1 t2 X2, PI w0 d r S st st t1 X1 t2 X2 w' ∧ Fine st (i + 1)
set_option maxHeartbeats 8000000 in
set_option maxRecDepth 100000 in
theorem same_any (w0 : World) (d r : Nat) (S : List (Int × Int)) (st : DS) (t1 : Nat → Nat) (X1 : DX) (t2 : Nat → Nat) (X2 : RX) (w : World) (h : PI w0 d r S st st t1 X1 t2 X2 w) (i : Nat) (hf : Fine st i) (hi : i ≤ 300) (hS : S.length ≤ 300) (x : Cl)
    (hb : At w0 x.a (x.b.map bv)) (hbl : x.b.length ≤ 3000) (hw0 : (Lit.int .i64 x.what).wf = true) (hw1 : (Lit.int .i64 x.no).wf = true) :
    Calls Try.prog 35 #[.pointer (some ⟨d, 0, none⟩), .pointer (some ⟨r, 0, none⟩), .agg #[.int .i64 x.what, .int .i64 x.no, .int .i64 x.pos, .int .i64 x.most, .slice x.a x.b.length x.c]] w (SamePost w0 d r S i) := by
  obtain ⟨j0, hj, jz0, jz1, jz2⟩ := info_parts Try.info5
  have hrange := whatM_range x.what
  have HWH := Lib.hid (fun W => what_any x W hw0)
  obtain ⟨xw, xn, xp, xm, xa, xc, xb⟩ := x
  dsimp only at *
  generalize whatM xw = q at *
  have H := Lib.hid h; have HF := Lib.hid hf; have HA := Lib.hid hb
  have hcnt := hf.count
  -- the box, the copy
  have HBX := Lib.hid (fun (W : World) (f : Fr No (w.alloc (.cells #[.int .i64 xw, .int .i64 xn, .int .i64 xp, .int .i64 xm, .slice xa xb.length xc] 31)) W) =>
    (show W.cell? ⟨w.heap.size, 0, none⟩ = some (.int .i64 xw) ∧ W.cell? ⟨w.heap.size, 1, none⟩ = some (.int .i64 xn) ∧ W.cell? ⟨w.heap.size, 2, none⟩ = some (.int .i64 xp) ∧ W.cell? ⟨w.heap.size, 3, none⟩ = some (.int .i64 xm) ∧ W.cell? ⟨w.heap.size, 4, none⟩ = some (.slice xa xb.length xc) from
      have b := (box_at f).1
      ⟨b 0, b 1, b 2, b 3, b 4⟩))
  have HLO := Lib.hid (show t1 w.heap.size = 0 ∧ t2 w.heap.size = 0 from ⟨h.rep1.new _ (Nat.le_refl _), h.new2 _ (Nat.le_refl _)⟩)
  have hat0 := at_nf hb h.fr
  have HA0 := Lib.hid hat0
  clear h hf hb hat0 hw0
  -- ARMS
  rcases hrange with rfl | rfl | rfl | rfl
  · -- Create
    have HC1 := Lib.hid (fun (W : World) (k : PI w0 d r S st st t1 X1 t2 X2 W) => create_any d S st t1 X1 W k.rep1 HF.out.len HF.out.most (by omega) (by omega))
    have HC2 := Lib.hid (fun (W : World) (s1 : DS) (t1 : Nat → Nat) (X1 : DX) (k : PI w0 d r S s1 st t1 X1 t2 X2 W) => rcreate_any r S st t2 X2 W k.rep2 HF.out.len HF.out.most (by omega) (by omega))
    have hfn := fine_create (S := S) HF.out
    unfold CrPost at HC1
    unfold RCrPost at HC2
    generalize createM S st = y at *
    have HFN := Lib.hid hfn; clear hfn
    go_enter Try.func35, Try.ntmps35
    go_wp2_with (first
      | (at_builtin; refine wpList_append_sl rfl (.tmp 25) (.tmp 27) 29 29 rfl 5 j0 (.int .u8 0) 1 1 Try.underlying29 hj jz0 jz1 jz2 rfl (by decide) (.slice (some ⟨w.heap.size + 1, 0, none⟩) 0 0) 0 [] rfl (own_empty_g _ 5 1 _ (by simp)) _ xb.length (xb.map bv) rfl (src_slice Try.underlying29 (by simp) (at_nf HA0.out (((Fr.refl No w).alloc _).alloc _)) (by simp [Value.oneCell'])) (by omega) (by omega) ?_
         intro v1 w1 hown1 hfr1 hblk1
         obtain ⟨a1, c1, rfl, _, _⟩ := hown1.at
         rw [List.nil_append] at hown1
         have hn1 : ∀ b, (Value.slice a1 (0 + xb.length) c1).ownBlock = some b → w.heap.size + 1 ≤ b := fun b e => by
           rcases hblk1 with h1 | h1
           · rw [h1] at e; have e' : some (w.heap.size + 1) = some b := e; injection e' with e'; omega
           · rw [h1] at e; injection e with e; simp at e; omega
         have f1 : Fr No (w.alloc (.cells #[.int .i64 xw, .int .i64 xn, .int .i64 xp, .int .i64 xm, .slice xa xb.length xc] 31)) w1 := ((Fr.refl No _).alloc _).step hfr1 (fun b o hb e => by
           have e' : some (w.heap.size + 1) = some b := e
           injection e' with e'; simp at hb; omega)
         rw [Nat.zero_add] at hown1 hn1 ⊢
         have HO1 := Lib.hid hown1; have HN1 := Lib.hid hn1; have F1 := Lib.hid f1; have P1 := Lib.hid (H.out.keep (((Fr.refl No w).alloc _).trans f1))
         obtain ⟨y0, y1, y2, y3, y4⟩ := HBX.out _ f1
         clear hown1 hfr1 hblk1 hn1 f1)
      | (go_at_call 19; refine (HWH.out _).mono ?_; rintro e2 w2 ⟨rfl, hf2⟩
         have P2 := Lib.hid (P1.out.keep hf2)
         have F2 := Lib.hid (F1.out.trans hf2); have F12 := Lib.hid hf2
         obtain ⟨x0, x1, x2, x3, x4⟩ := HBX.out _ F2.out
         clear hf2)
      | (go_at_call 20; refine (HC1.out _ P2.out).mono ?_; rintro e3 w3 ⟨rfl, hl3⟩
         obtain ⟨t13, X13, hp3, _⟩ := P2.out.one hl3
         have P3 := Lib.hid hp3; clear hl3 hp3)
      | (go_at_call 63; refine (HC2.out _ _ _ _ P3.out).mono ?_; rintro e4 w4 ⟨rfl, hl4⟩
         obtain ⟨t24, X24, hp4, _⟩ := P3.out.two hl4
         have P4 := Lib.hid hp4; clear hl4 hp4))
    go_ret
    exact ⟨rfl, _, _, _, _, _, P4.out, HFN.out⟩
  · -- Write
    have HC1 := Lib.hid (fun (W : World) (k : PI w0 d r S st st t1 X1 t2 X2 W) (ab : Option Addr) (cb : Nat) (hat : At W ab (xb.map bv)) (hz : ∀ g off, ab = some ⟨g, off, none⟩ → 0 < xb.length → t1 g = 0) => write_any d S st t1 X1 W k.rep1 (by omega) (by omega) (fun no => by have := HF.out.text no; omega) xn hw1 ab cb xb hat hz)
    have HC2 := Lib.hid (fun (W : World) (s1 : DS) (t1 : Nat → Nat) (X1 : DX) (k : PI w0 d r S s1 st t1 X1 t2 X2 W) => rwrite_any r S st t2 X2 W k.rep2 HF.out.len HF.out.most (by omega) (by omega) (fun no => by have := HF.out.text no; omega) xn xa xc xb (at_nf HA.out k.fr) (fun g off e h0 => by
      obtain ⟨g', off', e', hr⟩ := HA.out (by simp; omega)
      rw [e] at e'; injection e' with e'; injection e' with e1 e2; subst e1
      exact k.low2 g (hr.lt (by simp; omega))))
    have hfn := fine_write (S := S) HF.out xn xb
    unfold RemPost at HC1
    unfold RRemPost at HC2
    generalize writeM S st xn xb = y at *
    have HFN := Lib.hid hfn; clear hfn
    go_enter Try.func35, Try.ntmps35
    go_wp2_with (first
      | (at_builtin; refine wpList_append_sl rfl (.tmp 25) (.tmp 27) 29 29 rfl 5 j0 (.int .u8 0) 1 1 Try.underlying29 hj jz0 jz1 jz2 rfl (by decide) (.slice (some ⟨w.heap.size + 1, 0, none⟩) 0 0) 0 [] rfl (own_empty_g _ 5 1 _ (by simp)) _ xb.length (xb.map bv) rfl (src_slice Try.underlying29 (by simp) (at_nf HA0.out (((Fr.refl No w).alloc _).alloc _)) (by simp [Value.oneCell'])) (by omega) (by omega) ?_
         intro v1 w1 hown1 hfr1 hblk1
         obtain ⟨a1, c1, rfl, _, _⟩ := hown1.at
         rw [List.nil_append] at hown1
         have hn1 : ∀ b, (Value.slice a1 (0 + xb.length) c1).ownBlock = some b → w.heap.size + 1 ≤ b := fun b e => by
           rcases hblk1 with h1 | h1
           · rw [h1] at e; have e' : some (w.heap.size + 1) = some b := e; injection e' with e'; omega
           · rw [h1] at e; injection e with e; simp at e; omega
         have f1 : Fr No (w.alloc (.cells #[.int .i64 xw, .int .i64 xn, .int .i64 xp, .int .i64 xm, .slice xa xb.length xc] 31)) w1 := ((Fr.refl No _).alloc _).step hfr1 (fun b o hb e => by
           have e' : some (w.heap.size + 1) = some b := e
           injection e' with e'; simp at hb; omega)
         rw [Nat.zero_add] at hown1 hn1 ⊢
         have HO1 := Lib.hid hown1; have HN1 := Lib.hid hn1; have F1 := Lib.hid f1; have P1 := Lib.hid (H.out.keep (((Fr.refl No w).alloc _).trans f1))
         obtain ⟨y0, y1, y2, y3, y4⟩ := HBX.out _ f1
         clear hown1 hfr1 hblk1 hn1 f1)
      | (go_at_call 19; refine (HWH.out _).mono ?_; rintro e2 w2 ⟨rfl, hf2⟩
         have P2 := Lib.hid (P1.out.keep hf2)
         have F2 := Lib.hid (F1.out.trans hf2); have F12 := Lib.hid hf2
         obtain ⟨x0, x1, x2, x3, x4⟩ := HBX.out _ F2.out
         clear hf2)
      | (go_at_call 21; refine (HC1.out _ P2.out a1 c1 (by obtain ⟨a', c', e', hat, _⟩ := (HO1.out.fr (F12.out) (fun _ _ _ x => x)).at; injection e' with e1; rw [e1]; exact hat) (fun g off e h0 => by
           have h1 := HN1.out g (by rw [e]; rfl)
           exact H.out.rep1.new g (by omega))).mono ?_; rintro e3 w3 ⟨rfl, hl3⟩
         obtain ⟨t13, X13, hp3, hlow3⟩ := P2.out.one hl3
         obtain ⟨_, _, _, hfr3, _⟩ := hl3
         have z1 : w3.cell? ⟨w.heap.size, 1, none⟩ = some (.int .i64 xn) := (hfr3.cell w.heap.size 1 (World.block_lt_of_cell? w2 _ x1) (fun e => e HLO.out.1)).trans x1
         have z4 : w3.cell? ⟨w.heap.size, 4, none⟩ = some (.slice xa xb.length xc) := (hfr3.cell w.heap.size 4 (World.block_lt_of_cell? w2 _ x1) (fun e => e HLO.out.1)).trans x4
         have HO3 := Lib.hid ((HO1.out.fr F12.out (fun _ _ _ x => x)).fr hfr3 (fun b o e hn => hn (H.out.rep1.new b (by have := HN1.out b e; omega))))
         have P3 := Lib.hid hp3; clear hp3 hlow3 hfr3)
      | (go_at_call 64; refine (HC2.out _ _ _ _ P3.out).mono ?_; rintro e4 w4 ⟨rfl, hl4⟩
         obtain ⟨t24, X24, hp4, _⟩ := P3.out.two hl4
         obtain ⟨_, _, _, _, hfr4, _⟩ := hl4
         have u1 : w4.cell? ⟨w.heap.size, 1, none⟩ = some (.int .i64 xn) := (hfr4.cell w.heap.size 1 (World.block_lt_of_cell? w3 _ z1) (fun e => e HLO.out.2)).trans z1
         have u4 : w4.cell? ⟨w.heap.size, 4, none⟩ = some (.slice xa xb.length xc) := (hfr4.cell w.heap.size 4 (World.block_lt_of_cell? w3 _ z1) (fun e => e HLO.out.2)).trans z4
         obtain ⟨a', c', e', hat4, _⟩ := (HO3.out.fr hfr4 (fun b o e hn => hn (H.out.new2 b (by have := HN1.out b e; omega)))).at
         injection e' with e1 e2 e3; subst e1
         have hv4 : (convert 29 9 (.slice a1 xb.length c1)).run Try.prog w4 = .ok (.string ⟨xb.toArray⟩) w4 := conv_at hat4 Try.underlying29 Try.underlying5 Try.underlying9
         have hw4 : (convert 29 9 (.slice xa xb.length xc)).run Try.prog w4 = .ok (.string ⟨xb.toArray⟩) w4 := conv_at (at_nf HA.out hp4.fr) Try.underlying29 Try.underlying5 Try.underlying9
         have P4 := Lib.hid hp4; clear hp4 hfr4 hat4 e2 e3))
    go_ret
    exact ⟨rfl, _, _, _, _, _, P4.out, HFN.out⟩
  · -- Read
    have hf1 := fine_read1 (S := S) HF.out xn xp xm
    have hfn := fine_read2 (S := S) HF.out xn xp xm xn xp xm
    have HC1 := Lib.hid (fun (W : World) (k : PI w0 d r S st st t1 X1 t2 X2 W) => read_any d S st t1 X1 W k.rep1 (by omega) (by omega) (fun no => by have := HF.out.text no; omega) xn hw1 xp xm)
    have HC2 := Lib.hid (fun (W : World) (s1 : DS) (k : PI w0 d r S s1 st t1 X1 t2 X2 W) => rread_any r S st t2 X2 W k.rep2 HF.out.len HF.out.most (by omega) (by omega) (fun no => by have := HF.out.text no; omega) xn xp xm)
    have HC3 := Lib.hid (fun (W : World) (s2 : DS) (k : PI w0 d r S (readM S st xn xp xm).1 s2 t1 X1 t2 X2 W) => read_any d S (readM S st xn xp xm).1 t1 X1 W k.rep1 (by omega) (by have := hf1.2.2.1; omega) (fun no => by have := hf1.2.2.2 no; omega) xn hw1 xp xm)
    have HC4 := Lib.hid (fun (W : World) (s1 : DS) (k : PI w0 d r S s1 (readM S st xn xp xm).1 t1 X1 t2 X2 W) => rread_any r S (readM S st xn xp xm).1 t2 X2 W k.rep2 hf1.1 hf1.2.1 (by omega) (by have := hf1.2.2.1; omega) (fun no => by have := hf1.2.2.2 no; omega) xn xp xm)
    unfold ReadPost at HC1 HC3
    unfold RReadPost at HC2 HC4
    have HF1 := Lib.hid hf1; clear hf1
    have hol : (readM S st xn xp xm).2.1.length ≤ 1000000 := by
      unfold readM
      split
      · simp
      · split
        · rw [List.length_take, List.length_drop]; have := HF.out.text xn; omega
        · simp
    generalize readM S (readM S st xn xp xm).1 xn xp xm = y2 at *
    generalize readM S st xn xp xm = y at *
    obtain ⟨st1, o1, er1⟩ := y
    obtain ⟨st2, o2, er2⟩ := y2
    dsimp only at *
    have HFN := Lib.hid hfn; clear hfn
    go_enter Try.func35, Try.ntmps35
    go_wp2_with (first
      | (at_builtin; refine wpList_append_sl rfl (.tmp 25) (.tmp 27) 29 29 rfl 5 j0 (.int .u8 0) 1 1 Try.underlying29 hj jz0 jz1 jz2 rfl (by decide) (.slice (some ⟨w.heap.size + 1, 0, none⟩) 0 0) 0 [] rfl (own_empty_g _ 5 1 _ (by simp)) _ xb.length (xb.map bv) rfl (src_slice Try.underlying29 (by simp) (at_nf HA0.out (((Fr.refl No w).alloc _).alloc _)) (by simp [Value.oneCell'])) (by omega) (by omega) ?_
         intro v1 w1 hown1 hfr1 hblk1
         obtain ⟨a1, c1, rfl, _, _⟩ := hown1.at
         rw [List.nil_append] at hown1
         have hn1 : ∀ b, (Value.slice a1 (0 + xb.length) c1).ownBlock = some b → w.heap.size + 1 ≤ b := fun b e => by
           rcases hblk1 with h1 | h1
           · rw [h1] at e; have e' : some (w.heap.size + 1) = some b := e; injection e' with e'; omega
           · rw [h1] at e; injection e with e; simp at e; omega
         have f1 : Fr No (w.alloc (.cells #[.int .i64 xw, .int .i64 xn, .int .i64 xp, .int .i64 xm, .slice xa xb.length xc] 31)) w1 := ((Fr.refl No _).alloc _).step hfr1 (fun b o hb e => by
           have e' : some (w.heap.size + 1) = some b := e
           injection e' with e'; simp at hb; omega)
         rw [Nat.zero_add] at hown1 hn1 ⊢
         have HO1 := Lib.hid hown1; have HN1 := Lib.hid hn1; have F1 := Lib.hid f1; have P1 := Lib.hid (H.out.keep (((Fr.refl No w).alloc _).trans f1))
         obtain ⟨y0, y1, y2, y3, y4⟩ := HBX.out _ f1
         clear hown1 hfr1 hblk1 hn1 f1)
      | (go_at_call 19; refine (HWH.out _).mono ?_; rintro e2 w2 ⟨rfl, hf2⟩
         have P2 := Lib.hid (P1.out.keep hf2)
         have F2 := Lib.hid (F1.out.trans hf2); have F12 := Lib.hid hf2
         obtain ⟨x0, x1, x2, x3, x4⟩ := HBX.out _ F2.out
         clear hf2)
      | (go_at_call 22; refine (HC1.out _ P2.out).mono ?_; rintro e3 w3 ⟨a3, c3, rfl, ho3, hr3, hf3, hb3⟩
         have hg3 : Fr (fun b _ => b = d) w2 w3 := hf3
         have hdd : w.heap.size ≠ d := (by have := heap_lt H.out.rep1.disk; omega)
         have z1 : w3.cell? ⟨w.heap.size, 1, none⟩ = some (.int .i64 xn) := (hg3.cell w.heap.size 1 (World.block_lt_of_cell? w2 _ x1) (fun e => hdd e)).trans x1
         have z2 : w3.cell? ⟨w.heap.size, 2, none⟩ = some (.int .i64 xp) := (hg3.cell w.heap.size 2 (World.block_lt_of_cell? w2 _ x1) (fun e => hdd e)).trans x2
         have z3 : w3.cell? ⟨w.heap.size, 3, none⟩ = some (.int .i64 xm) := (hg3.cell w.heap.size 3 (World.block_lt_of_cell? w2 _ x1) (fun e => hdd e)).trans x3
         have P3 := Lib.hid (P2.out.turn1 hr3 hf3); have HO3 := Lib.hid ho3
         have HB3 := Lib.hid (show ∀ b, (Value.slice a3 o1.length c3).ownBlock = some b → w2.heap.size ≤ b from hb3)
         have hs2 := World.block_lt_of_cell? w2 _ x1
         clear ho3 hr3 hf3 hb3 hg3)
      | (go_at_call 65; refine (HC2.out _ _ P3.out).mono ?_; rintro e4 w4 ⟨a4, c4, rfl, hat4, hr4, hf4⟩
         have hrr : w.heap.size ≠ r := (by have := heap_lt H.out.rep2.disk; omega)
         have v1 : w4.cell? ⟨w.heap.size, 1, none⟩ = some (.int .i64 xn) := (hf4.cell w.heap.size 1 (World.block_lt_of_cell? w3 _ z1) (fun e => hrr e)).trans z1
         have v2 : w4.cell? ⟨w.heap.size, 2, none⟩ = some (.int .i64 xp) := (hf4.cell w.heap.size 2 (World.block_lt_of_cell? w3 _ z1) (fun e => hrr e)).trans z2
         have v3 : w4.cell? ⟨w.heap.size, 3, none⟩ = some (.int .i64 xm) := (hf4.cell w.heap.size 3 (World.block_lt_of_cell? w3 _ z1) (fun e => hrr e)).trans z3
         have P4 := Lib.hid (P3.out.turn2 hr4 hf4)
         have hrl := heap_lt H.out.rep2.disk
         have HO4 := Lib.hid (HO3.out.fr hf4 (fun b o e e2 => by have := HB3.out b e; omega))
         clear hat4 hr4 hf4))
    have P2' := P2.out
    have hblk : ∀ b, (Value.slice a3 o1.length c3).ownBlock = some b → t1 b = 0 ∧ t2 b = 0 ∧ w0.heap.size ≤ b ∧ w.heap.size < b := fun b e => by
      have h1 := HB3.out b e
      have h2 := P2'.fr.size
      exact ⟨P2'.rep1.new b h1, P2'.new2 b h1, by omega, by omega⟩
    have HBK := Lib.hid hblk
    clear hblk P2'
    have HL := Lib.hid hol; clear hol
    go_loopw [18] (fun v wr => ∃ k : Nat, k ≤ o1.length ∧ v = .int .i64 k ∧ Hid (∃ xs, OwnSl wr 5 1 (.slice a3 o1.length c3) o1.length xs ∧ ∀ j, j < o1.length → ∃ m : Int, xs.getD j undef = .int .u8 m) ∧ Hid (Fr (Blk (.slice a3 o1.length c3)) w4 wr)) (fun v _ => o1.length - (intOf v).toNat)
    case atStart => exact ⟨0, Nat.zero_le _, rfl, Lib.hid ⟨_, HO4.out, fun j hj => ⟨(o1[j]).toNat, by simp [hj, bv]⟩⟩, Lib.hid (Fr.refl _ _)⟩
    case round =>
      obtain ⟨k, hk, rfl, HX, HFL⟩ := hrel
      have hlL := HL.out
      by_cases hlt : k < o1.length
      · obtain ⟨xs, hox, hint⟩ := HX.out
        obtain ⟨m, hm⟩ := hint k hlt
        obtain ⟨g, o, rfl, hc, hz⟩ := hox.get hlt
        rw [hm] at hc
        have hki : (k : Int) < o1.length := by omega
        have HOX := Lib.hid hox; have HIN := Lib.hid hint
        clear hox hint hm HX
        go_wp2
        go_roundw
        case rel =>
          refine ⟨k + 1, by omega, by go_num, Lib.hid ⟨_, HOX.out.set hlt _, fun j hj => ?_⟩, Lib.hid (HFL.out.setCell (fun _ => rfl) _)⟩
          by_cases e : k = j
          · subst e
            have hxl := HOX.out.1
            exact ⟨_, by rw [List.getD_eq_getElem?_getD, List.getElem?_set_self (by omega)]; rfl⟩
          · obtain ⟨m', hm'⟩ := HIN.out j hj
            exact ⟨m', by rw [← hm', List.getD_eq_getElem?_getD, List.getElem?_set_ne e, ← List.getD_eq_getElem?_getD]⟩
        case measure => simp [intOf]; omega
      · obtain rfl : k = o1.length := by omega
        have P5 := Lib.hid (P4.out.keepT HFL.out (fun b o hb e => hb (HBK.out b e).1) (fun b o hb e => hb (HBK.out b e).2.1) (fun b o hb e => by have := (HBK.out b e).2.2.1; omega))
        have hwl : w.heap.size < w4.heap.size := World.block_lt_of_cell? w4 _ v1
        have hnb : ∀ o : Nat, ¬ Blk (.slice a3 o1.length c3) w.heap.size o := fun o e => by have := (HBK.out _ e).2.2.2; omega
        have q1 : wr.cell? ⟨w.heap.size, 1, none⟩ = some (.int .i64 xn) := (HFL.out.cell w.heap.size 1 hwl (hnb 1)).trans v1
        have q2 : wr.cell? ⟨w.heap.size, 2, none⟩ = some (.int .i64 xp) := (HFL.out.cell w.heap.size 2 hwl (hnb 2)).trans v2
        have q3 : wr.cell? ⟨w.heap.size, 3, none⟩ = some (.int .i64 xm) := (HFL.out.cell w.heap.size 3 hwl (hnb 3)).trans v3
        clear HX hnb
        go_wp2_with (first
          | (go_at_call 22; refine (HC3.out _ _ P5.out).mono ?_; rintro e5 w5 ⟨a5, c5, rfl, ho5, hr5, hf5, hb5⟩
             have hdd : w.heap.size ≠ d := (by have := heap_lt H.out.rep1.disk; omega)
             have hwr : w.heap.size < wr.heap.size := World.block_lt_of_cell? wr _ q1
             have k1 : w5.cell? ⟨w.heap.size, 1, none⟩ = some (.int .i64 xn) := (hf5.cell w.heap.size 1 hwr (fun e => hdd e)).trans q1
             have k2 : w5.cell? ⟨w.heap.size, 2, none⟩ = some (.int .i64 xp) := (hf5.cell w.heap.size 2 hwr (fun e => hdd e)).trans q2
             have k3 : w5.cell? ⟨w.heap.size, 3, none⟩ = some (.int .i64 xm) := (hf5.cell w.heap.size 3 hwr (fun e => hdd e)).trans q3
             have P6 := Lib.hid (P5.out.turn1 hr5 hf5); have HO5 := Lib.hid ho5
             have HB5 := Lib.hid (show ∀ b, (Value.slice a5 o2.length c5).ownBlock = some b → wr.heap.size ≤ b from hb5)
             clear ho5 hr5 hf5 hb5)
          | (go_at_call 65; refine (HC4.out _ _ P6.out).mono ?_; rintro e6 w6 ⟨a6, c6, rfl, hat6, hr6, hf6⟩
             have hrr : r < wr.heap.size := heap_lt P5.out.rep2.disk
             obtain ⟨a', c', e', hat5, _⟩ := (HO5.out.fr hf6 (fun b o e e2 => by have := HB5.out b e; omega)).at
             injection e' with e1 e2 e3; subst e1
             have hv6 : (convert 29 9 (.slice a5 o2.length c5)).run Try.prog w6 = .ok (.string ⟨o2.toArray⟩) w6 := conv_at hat5 Try.underlying29 Try.underlying5 Try.underlying9
             have hw6 : (convert 29 9 (.slice a6 o2.length c6)).run Try.prog w6 = .ok (.string ⟨o2.toArray⟩) w6 := conv_at hat6 Try.underlying29 Try.underlying5 Try.underlying9
             have P7 := Lib.hid (P6.out.turn2 hr6 hf6)
             clear hat6 hr6 hf6 hat5 e2 e3))
        go_ret
        exact ⟨rfl, _, _, _, _, _, P7.out, HFN.out⟩
  · -- Remove
    have HC1 := Lib.hid (fun (W : World) (k : PI w0 d r S st st t1 X1 t2 X2 W) => remove_any d S st t1 X1 W k.rep1 HF.out.len (by omega) (by omega) xn hw1)
    have HC2 := Lib.hid (fun (W : World) (s1 : DS) (t1 : Nat → Nat) (X1 : DX) (k : PI w0 d r S s1 st t1 X1 t2 X2 W) => rremove_any r S st t2 X2 W k.rep2 HF.out.len HF.out.most (by omega) (by omega) xn)
    have hfn := fine_remove (S := S) HF.out xn
    unfold RemPost at HC1
    unfold RRemPost at HC2
    generalize removeM S st xn = y at *
    have HFN := Lib.hid hfn; clear hfn
    go_enter Try.func35, Try.ntmps35
    go_wp2_with (first
      | (at_builtin; refine wpList_append_sl rfl (.tmp 25) (.tmp 27) 29 29 rfl 5 j0 (.int .u8 0) 1 1 Try.underlying29 hj jz0 jz1 jz2 rfl (by decide) (.slice (some ⟨w.heap.size + 1, 0, none⟩) 0 0) 0 [] rfl (own_empty_g _ 5 1 _ (by simp)) _ xb.length (xb.map bv) rfl (src_slice Try.underlying29 (by simp) (at_nf HA0.out (((Fr.refl No w).alloc _).alloc _)) (by simp [Value.oneCell'])) (by omega) (by omega) ?_
         intro v1 w1 hown1 hfr1 hblk1
         obtain ⟨a1, c1, rfl, _, _⟩ := hown1.at
         rw [List.nil_append] at hown1
         have hn1 : ∀ b, (Value.slice a1 (0 + xb.length) c1).ownBlock = some b → w.heap.size + 1 ≤ b := fun b e => by
           rcases hblk1 with h1 | h1
           · rw [h1] at e; have e' : some (w.heap.size + 1) = some b := e; injection e' with e'; omega
           · rw [h1] at e; injection e with e; simp at e; omega
         have f1 : Fr No (w.alloc (.cells #[.int .i64 xw, .int .i64 xn, .int .i64 xp, .int .i64 xm, .slice xa xb.length xc] 31)) w1 := ((Fr.refl No _).alloc _).step hfr1 (fun b o hb e => by
           have e' : some (w.heap.size + 1) = some b := e
           injection e' with e'; simp at hb; omega)
         rw [Nat.zero_add] at hown1 hn1 ⊢
         have HO1 := Lib.hid hown1; have HN1 := Lib.hid hn1; have F1 := Lib.hid f1; have P1 := Lib.hid (H.out.keep (((Fr.refl No w).alloc _).trans f1))
         obtain ⟨y0, y1, y2, y3, y4⟩ := HBX.out _ f1
         clear hown1 hfr1 hblk1 hn1 f1)
      | (go_at_call 19; refine (HWH.out _).mono ?_; rintro e2 w2 ⟨rfl, hf2⟩
         have P2 := Lib.hid (P1.out.keep hf2)
         have F2 := Lib.hid (F1.out.trans hf2); have F12 := Lib.hid hf2
         obtain ⟨x0, x1, x2, x3, x4⟩ := HBX.out _ F2.out
         clear hf2)
      | (go_at_call 23; refine (HC1.out _ P2.out).mono ?_; rintro e3 w3 ⟨rfl, hl3⟩
         obtain ⟨t13, X13, hp3, _⟩ := P2.out.one hl3
         have HL3 := Lib.hid hl3
         have z1 : w3.cell? ⟨w.heap.size, 1, none⟩ = some (.int .i64 xn) := (by
           obtain ⟨_, _, _, hfr, _⟩ := hl3
           exact (hfr.cell w.heap.size 1 (World.block_lt_of_cell? w2 _ x1) (fun e => e HLO.out.1)).trans x1)
         have P3 := Lib.hid hp3; clear hl3 hp3)
      | (go_at_call 66; refine (HC2.out _ _ _ _ P3.out).mono ?_; rintro e4 w4 ⟨rfl, hl4⟩
         obtain ⟨t24, X24, hp4, _⟩ := P3.out.two hl4
         have P4 := Lib.hid hp4; clear hl4 hp4))
    go_ret
    exact ⟨rfl, _, _, _, _, _, P4.out, HFN.out⟩
  -- END
end Go.Proofs.Ytljldkknopmfhaa
