/- A disk's New, Raw, Calls; the laws' awake. -/
import Derived.Test.YtljldkknopmfhaaFilF
namespace Go.Proofs.Ytljldkknopmfhaa
open Go.RowKit Go.Maps Go

theorem info_fail : (Try.prog.info? 76).map (fun i => (i.zero, i.size, i.bytes)) = some (some (.agg #[.int .i64 0, .int .i64 0]), 2, 16) := by kernel_rfl
theorem scr_one (S : List (Int × Int)) : ∀ y ∈ scr S, y.oneCell' = true := by
  intro y hy
  obtain ⟨x, _, h⟩ := List.mem_flatMap.1 hy
  simp at h
  rcases h with rfl | rfl <;> rfl
/-- A clone of a script. -/
def FClonePost (w : World) (S : List (Int × Int)) (e : Ending) (w' : World) : Prop :=
  ∃ a c, e = .returned (.slice a S.length c) ∧ OwnSl w' 76 2 (.slice a S.length c) S.length (scr S) ∧ Fr No w w' ∧ ∀ b, (Value.slice a S.length c).ownBlock = some b → w.heap.size ≤ b
set_option maxRecDepth 100000 in
theorem fclone_any (a : Option Addr) (n c : Nat) (S : List (Int × Int)) (w : World) (hn : n = S.length) (ha : At w a (scr S)) (hl : S.length ≤ 100000) :
    Calls Try.prog 55 #[.slice a n c] w (FClonePost w S) := by
  subst hn
  obtain ⟨j0, hj, jz0, jz1, jz2⟩ := info_parts info_fail
  cases a with
  | none =>
    have h0 : S = [] := by
      rcases Nat.eq_zero_or_pos S.length with h | h
      · exact List.eq_nil_of_length_eq_zero h
      · obtain ⟨g, off, e, _⟩ := ha (by rw [scr_length]; omega); cases e
    subst h0
    have he := fun W => Lib.run_eql_slice_nil (P := Try.prog) W 22 76 none ([] : List (Int × Int)).length c 0 0 Try.underlying22
    simp only [List.length_nil, Option.isNone_none] at he ⊢
    go_enter Try.func55, Try.ntmps55
    go_wp2
    go_ret
    exact ⟨none, 0, rfl, OwnSl.nil _ _ _, Fr.refl _ _, by simp [Value.ownBlock]⟩
  | some ad =>
    have he := fun W => Lib.run_eql_slice_nil (P := Try.prog) W 22 76 (some ad) S.length c 0 0 Try.underlying22
    have hsl := scr_length S
    have h1 := scr_one S
    simp only [Option.isNone_some] at he
    have HA := Lib.hid ha; clear ha
    generalize hcs : scr S = cs at *
    have HCS := Lib.hid hcs; clear hcs
    have HSL := Lib.hid hsl; have H1 := Lib.hid h1; clear hsl h1
    go_enter Try.func55, Try.ntmps55
    go_wp2_with (first
      | (at_builtin; refine wpList_append_sl rfl (.tmp 5) (.tmp 6) 22 22 rfl 76 j0 (.agg #[.int .i64 0, .int .i64 0]) 2 16 Try.underlying22 hj jz0 jz1 jz2 rfl (by decide) (.slice (some ⟨w.heap.size, 0, none⟩) 0 0) 0 [] rfl (own_empty w 76 2) _ S.length cs rfl (src_slice Try.underlying22 HSL.out (HA.out.fr ((Fr.refl No _).alloc _) (fun _ _ _ _ _ _ x => x)) H1.out) (by omega) (by omega) ?_
         intro v1 w1 hown1 hfr1 hblk1
         obtain ⟨a1, c1, hv1, hat1, _⟩ := hown1.at; subst hv1))
    go_ret
    rw [Nat.zero_add, List.nil_append] at hown1
    rw [Nat.zero_add] at hblk1
    rw [← HCS.out] at hown1
    refine ⟨a1, c1, rfl, hown1, ((Fr.refl No w).alloc _).step hfr1 (fun i o hi x => ?_), fun b e => ?_⟩
    · have e' : some w.heap.size = some i := x
      injection e' with e'; omega
    · rcases hblk1 with h | h
      · rw [h] at e; have e' : some w.heap.size = some b := e; injection e' with e'; omega
      · rw [h] at e; injection e with e; simp at e; omega
def NewFPost (w : World) (S : List (Int × Int)) (e : Ending) (w' : World) : Prop :=
  ∃ d tg X, e = .returned (.pointer (some ⟨d, 0, none⟩)) ∧ DRep w' d S ds0 tg X ∧ Fr No w w' ∧ ∀ b, b < w.heap.size → tg b = 0
set_option maxHeartbeats 1000000 in
set_option maxRecDepth 100000 in
theorem newF_any (a : Option Addr) (c : Nat) (S : List (Int × Int)) (w : World) (ha : At w a (scr S)) (hl : S.length ≤ 100000) :
    Calls Try.prog 18 #[.slice a S.length c] w (NewFPost w S) := by
  have hmm := @run_makeMap Try.prog
  have HCL := Lib.hid (fclone_any a S.length c S w rfl ha hl)
  clear ha
  go_enter Try.func18, Try.ntmps18
  go_wp2_with (first
    | (go_at_call 55; refine HCL.out.mono ?_; rintro e1 w1 ⟨a1, c1, rfl, hown1, hf1, hb1⟩
       have HO1 := Lib.hid hown1; have HF1 := Lib.hid hf1; have HB1 := Lib.hid hb1; clear hown1 hf1 hb1))
  go_ret
  have hs1 := HF1.out.size
  have hlt := HO1.out.lt
  have hf : Fr No w1 ((w1.alloc (.map #[] 0)).alloc (.cells #[.slice a1 S.length c1, .map (some w1.heap.size), .int .i64 0, .int .i64 0, .int .i64 0] 80)) := ((Fr.refl No w1).alloc _).alloc _
  refine ⟨w1.heap.size + 1, fun b => if b = w1.heap.size + 1 then 1 else if b = w1.heap.size then 2 else if (Value.slice a1 S.length c1).ownBlock = some b then 3 else 0, ⟨a1, c1, w1.heap.size, .map []⟩, rfl, ?_, HF1.out.trans hf, fun b hb => ?_⟩
  · refine ⟨fun b hb => ?_, ?_, if_pos rfl, ?_, ?_, ?_, fun g off e h0 => ?_, fun no => ?_, fun k hk => ?_⟩
    · simp only [World.alloc, Array.size_push]
      split at hb
      · omega
      · split at hb
        · omega
        · split at hb
          · rename_i e; have := hlt b e; omega
          · exact absurd rfl hb
    · have := heap_alloc_new (w1.alloc (.map #[] 0)) (.cells #[.slice a1 S.length c1, .map (some w1.heap.size), .int .i64 0, .int .i64 0, .int .i64 0] 80)
      show ((w1.alloc (.map #[] 0)).alloc (.cells #[.slice a1 S.length c1, .map (some w1.heap.size), .int .i64 0, .int .i64 0, .int .i64 0] 80)).heap[w1.heap.size + 1]? = some (.cells #[.slice a1 S.length c1, .map (some w1.heap.size), .int .i64 0, .int .i64 0, .int .i64 0] 80 (0, 0))
      simpa using this
    · show (if w1.heap.size = w1.heap.size + 1 then 1 else _) = 2
      rw [if_neg (by omega), if_pos rfl]
    · exact (World.ownsMap_made w1 Try.prog 3 ptrR).alloc _
    · obtain ⟨a', c', e', hat, _⟩ := HO1.out.at
      injection e' with e1 e2 e3; subst e1
      exact at_nf hat hf
    · have hg : (Value.slice a1 S.length c1).ownBlock = some g := by
        have e' : a1 = some ⟨g, off, none⟩ := e
        rw [e']; rfl
      have := hlt g hg
      show (if g = w1.heap.size + 1 then 1 else if g = w1.heap.size then 2 else if (Value.slice a1 S.length c1).ownBlock = some g then 3 else 0) = 3
      rw [if_neg (by omega), if_neg (by omega), if_pos hg]
    · show false = _
      simp [DS.is, ds0]
    · simp [DS.is, ds0] at hk
  · show (if b = w1.heap.size + 1 then 1 else if b = w1.heap.size then 2 else if (Value.slice a1 S.length c1).ownBlock = some b then 3 else 0) = 0
    rw [if_neg (by omega), if_neg (by omega), if_neg (fun e => by have := HB1.out b e; omega)]
set_option maxRecDepth 100000 in
theorem raw_any (d : Nat) (S : List (Int × Int)) (st : DS) (tg : Nat → Nat) (X : DX) (w : World) (h : DRep w d S st tg X) : Calls Try.prog 40 #[.pointer (some ⟨d, 0, none⟩)] w fun e w' => e = .returned (.int .i64 st.id) ∧ w' = w := by
  obtain ⟨c0, c1, c2, c3, c4, cF⟩ := cells5 h.disk
  clear h
  go_enter Try.func40, Try.ntmps40
  go_wp2
  go_ret
  exact ⟨rfl, rfl⟩
set_option maxRecDepth 100000 in
theorem calls_any (d : Nat) (S : List (Int × Int)) (st : DS) (tg : Nat → Nat) (X : DX) (w : World) (h : DRep w d S st tg X) : Calls Try.prog 39 #[.pointer (some ⟨d, 0, none⟩)] w fun e w' => e = .returned (.int .i64 st.count) ∧ w' = w := by
  obtain ⟨c0, c1, c2, c3, c4, cF⟩ := cells5 h.disk
  clear h
  go_enter Try.func39, Try.ntmps39
  go_wp2
  go_ret
  exact ⟨rfl, rfl⟩
theorem DRep.new {w : World} {d : Nat} {T : List (Int × Int)} {st : DS} {tg : Nat → Nat} {X : DX} (h : DRep w d T st tg X) : ∀ b, w.heap.size ≤ b → tg b = 0 := fun b hb => Classical.byContradiction fun hn => by have := h.lt b hn; omega
def TruePost (w : World) (e : Ending) (w' : World) : Prop := e = .returned (.bool true) ∧ Fr No w w'
/-- A disk that a call of one's own has made. -/
theorem Left.own {w0 w w' : World} {d : Nat} {S : List (Int × Int)} {st : DS} {tg : Nat → Nat} (h : Left w d S st tg w') (hw : Fr No w0 w) (h0 : ∀ b, b < w0.heap.size → tg b = 0) : ∃ tg' X', DRep w' d S st tg' X' ∧ Fr No w0 w' ∧ ∀ b, b < w0.heap.size → tg' b = 0 := by
  obtain ⟨tg', X', h1, h2, h3⟩ := h
  exact ⟨tg', X', h1, hw.step h2 (fun b o hb e => e (h0 b hb)), fun b hb => (h3 b (Nat.lt_of_lt_of_le hb hw.size)).trans (h0 b hb)⟩
def aw1 : DS := ⟨[[]], [true], 1, 0⟩
def aw2 : DS := ⟨[[97, 98]], [true], 2, 0⟩
def aw3 : DS := ⟨[[97, 98]], [true], 3, 9⟩
def aw4 : DS := ⟨[[97, 98]], [true], 4, 9⟩
set_option maxHeartbeats 2000000 in
set_option maxRecDepth 100000 in
theorem awake_any (w : World) : Calls Try.prog 17 #[] w (TruePost w) := by
  have hcv2 : ∀ (W : World) (g : Nat), g = W.heap.size → (convert 29 29 (.slice (some ⟨g, 0, none⟩) 2 2)).run Try.prog (W.alloc (.cells #[.int .u8 97, .int .u8 98] 5)) = .ok (.slice (some ⟨g, 0, none⟩) 2 2) (W.alloc (.cells #[.int .u8 97, .int .u8 98] 5 (2, 3))) := fun W g hg =>
    conv_const 29 5 Try.underlying29 Try.underlying5 W #[.int .u8 97, .int .u8 98] 2 2 g hg
  have hcv1 : ∀ (W : World) (g : Nat), g = W.heap.size → (convert 29 29 (.slice (some ⟨g, 0, none⟩) 1 1)).run Try.prog (W.alloc (.cells #[.int .u8 99] 5)) = .ok (.slice (some ⟨g, 0, none⟩) 1 1) (W.alloc (.cells #[.int .u8 99] 5 (1, 2))) := fun W g hg =>
    conv_const 29 5 Try.underlying29 Try.underlying5 W #[.int .u8 99] 1 1 g hg
  have HNEW := Lib.hid (fun (W : World) (g : Nat) (h : Row W g 0 (scr [(2, 9)])) => newF_any (some ⟨g, 0, none⟩) 1 [(2, 9)] W (fun _ => ⟨_, 0, rfl, h⟩) (by simp))
  have HCR := Lib.hid (fun (W : World) (d : Nat) (tg : Nat → Nat) (X : DX) (h : DRep W d [(2, 9)] ds0 tg X) => create_any d [(2, 9)] ds0 tg X W h rfl (by decide) (by decide) (by decide))
  rw [show createM [(2, 9)] ds0 = (aw1, 1, 0) from by kernel_rfl] at HCR
  have HW1 := Lib.hid (fun (W : World) (d : Nat) (tg : Nat → Nat) (X : DX) (h : DRep W d [(2, 9)] aw1 tg X) (g : Nat) (hr : Row W g 0 [bv 97, bv 98]) (ht : tg g = 0) =>
    write_any d [(2, 9)] aw1 tg X W h (by decide) (by decide) (fun no => by have := (show Fine aw1 1 from ⟨rfl, by decide, by decide, by simp [aw1]⟩).text no; omega) 1 (by decide) (some ⟨g, 0, none⟩) 2 [97, 98] (fun _ => ⟨g, 0, rfl, hr⟩) (fun g' off e _ => by injection e with e; injection e with e; subst e; exact ht))
  have HW2 := Lib.hid (fun (W : World) (d : Nat) (tg : Nat → Nat) (X : DX) (h : DRep W d [(2, 9)] aw2 tg X) (g : Nat) (hr : Row W g 0 [bv 99]) (ht : tg g = 0) =>
    write_any d [(2, 9)] aw2 tg X W h (by decide) (by decide) (fun no => by have := (show Fine aw2 1 from ⟨rfl, by decide, by decide, by simp [aw2]⟩).text no; omega) 1 (by decide) (some ⟨g, 0, none⟩) 1 [99] (fun _ => ⟨g, 0, rfl, hr⟩) (fun g' off e _ => by injection e with e; injection e with e; subst e; exact ht))
  have HRD := Lib.hid (fun (W : World) (d : Nat) (tg : Nat → Nat) (X : DX) (h : DRep W d [(2, 9)] aw3 tg X) => read_any d [(2, 9)] aw3 tg X W h (by decide) (by decide) (fun no => by have := (show Fine aw3 2 from ⟨rfl, by decide, by decide, by simp [aw3]⟩).text no; omega) 1 (by decide) 0 9)
  rw [show writeM [(2, 9)] aw1 1 [97, 98] = (aw2, 0) from by kernel_rfl] at HW1
  rw [show writeM [(2, 9)] aw2 1 [99] = (aw3, 25) from by kernel_rfl] at HW2
  rw [show readM [(2, 9)] aw3 1 0 9 = (aw4, [97, 98], 0) from by kernel_rfl] at HRD
  simp only [List.length_cons, List.length_nil, Nat.zero_add, Nat.reduceAdd] at HNEW HW1 HW2
  go_enter Try.func17, Try.ntmps17
  go_wp2_with (first
    | (go_at_call 18; refine (HNEW.out _ _ (row_at _ _ _ rfl _ rfl 76 (0, 0))).mono ?_; rintro e1 w1 ⟨d, tg1, X1, rfl, hr1, hf1, ht1⟩
       have hF1 := ((Fr.refl No w).alloc _).trans hf1
       have h01 : ∀ b, b < w.heap.size → tg1 b = 0 := fun b hb => ht1 b (by simp; omega)
       have HR1 := Lib.hid hr1; have HF1 := Lib.hid hF1; have HT1 := Lib.hid h01; clear hr1 hf1 ht1 hF1 h01)
    | (go_at_call 20; refine (HCR.out _ _ _ _ HR1.out).mono ?_; rintro e2 w2 ⟨rfl, hl2⟩
       obtain ⟨tg2, X2, hr2, hf2, h02⟩ := hl2.own HF1.out HT1.out
       have HR2 := Lib.hid hr2; have HF2 := Lib.hid hf2; have HT2 := Lib.hid h02; clear hr2 hf2 h02 hl2
       have hcv2' := hcv2 w2 _ rfl)
    | (go_at_call 21; refine (HW2.out _ d _ _ (HR3.out.fr ((Fr.refl No _).alloc _) (fun _ _ _ x => x)) w3.heap.size (row_at _ _ _ rfl _ rfl 5 (1, 2)) (HR3.out.new _ (Nat.le_refl _))).mono ?_; rintro e4 w4 ⟨rfl, hl4⟩
       obtain ⟨tg4, X4, hr4, hf4, h04⟩ := hl4.own (HF3.out.alloc _) HT3.out
       have HR4 := Lib.hid hr4; have HF4 := Lib.hid hf4; have HT4 := Lib.hid h04; clear hr4 hf4 h04 hl4)
    | (go_at_call 21; refine (HW1.out _ d _ _ (HR2.out.fr ((Fr.refl No _).alloc _) (fun _ _ _ x => x)) w2.heap.size (row_at _ _ _ rfl _ rfl 5 (2, 3)) (HR2.out.new _ (Nat.le_refl _))).mono ?_; rintro e3 w3 ⟨rfl, hl3⟩
       obtain ⟨tg3, X3, hr3, hf3, h03⟩ := hl3.own (HF2.out.alloc _) HT2.out
       have HR3 := Lib.hid hr3; have HF3 := Lib.hid hf3; have HT3 := Lib.hid h03; clear hr3 hf3 h03 hl3
       have hcv1' := hcv1 w3 _ rfl)
    | (go_at_call 22; refine (HRD.out _ d _ _ HR4.out).mono ?_; rintro e5 w5 ⟨a5, c5, rfl, ho5, hr5, hf5, hb5⟩
       have HR5 := Lib.hid hr5; have HF5 := Lib.hid (show Fr No w w5 from HF4.out.step hf5 (fun b o hb e => by rw [e] at hb; have h1 := HT4.out d hb; rw [hr5.tgd] at h1; cases h1))
       obtain ⟨a', c', e', hat, _⟩ := ho5.at
       injection e' with e1 e2 e3; subst e1
       have hcs : (convert 29 9 (.slice a5 2 c5)).run Try.prog w5 = .ok (.string ⟨#[97, 98]⟩) w5 := conv_at (P := Try.prog) (l := [97, 98]) (cap := c5) hat Try.underlying29 Try.underlying5 Try.underlying9
       have HCN := Lib.hid (calls_any d _ _ _ _ w5 hr5); have HRW := Lib.hid (raw_any d _ _ _ _ w5 hr5)
       clear ho5 hr5 hf5 hb5 e2 e3 hat)
    | (go_at_call 40; refine HRW.out.mono ?_; rintro e6 w6 ⟨rfl, rfl⟩)
    | (go_at_call 39; refine HCN.out.mono ?_; rintro e7 w7 ⟨rfl, rfl⟩))
  go_ret
  exact ⟨rfl, HF5.out⟩
end Go.Proofs.Ytljldkknopmfhaa
