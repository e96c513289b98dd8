/- Walks over the document's splitter. -/
import Derived.Test.YtmjmaffbnejccaaLineJ
namespace Go.Proofs.Ytmjmaffbnejccaa
open Go.RowKit

theorem cutM_len : ∀ (bs cs : List UInt8) (acc : List (List UInt8)), (cutM bs cs acc).1.length ≤ acc.length + bs.length
  | [], cs, acc => by simp [cutM]
  | x :: xs, cs, acc => by
    rw [cutM]
    split
    · have := cutM_len xs [] (acc ++ [cs]); simp at this ⊢; omega
    · split
      · simp
      · have := cutM_len xs (cs ++ [x]) acc; simp at this ⊢; omega

/-- A slice of strings of one's own. -/
def SOwn (w : World) (base : Nat) (v : Value) (l : List (List UInt8)) : Prop := w.ownsRow base 9 1 v l.length (l.map sv)
def LinesPost (w : World) (r : List (List UInt8) × List UInt8 × Bool) (e : Ending) (w' : World) : Prop :=
  ∃ v, e = .returned (.tuple #[v, sv r.2.1, .bool r.2.2]) ∧ SOwn w' w.heap.size v r.1 ∧ Fr No w w'

set_option maxHeartbeats 1000000 in
theorem rlines_any (a : Option Addr) (n cap : Nat) (bs : List UInt8) (w : World) (hnl : n = bs.length) (hr : At w a (bs.map bv)) (hn : bs.length ≤ 100000000) (hc : bs.length ≤ cap) :
    Calls Try.prog 20 #[.slice a n cap] w (LinesPost w (cutM bs [] [])) := by
  subst hnl
  obtain ⟨i0, hi, hz0, hz1, hz2⟩ := info_parts Try.info9
  go_enter Try.func20, Try.ntmps20
  go_wp2
  go_loopw [2, 5, 6] (fun v t i wr => ∃ (k s : Nat) (cur : List UInt8) (acc : List (List UInt8)), k ≤ bs.length ∧ i = .int .i64 k ∧ t = .int .i64 s ∧ s + cur.length = k ∧ cur.length ≤ 64 ∧ cur = (bs.drop s).take cur.length ∧ acc.length ≤ k ∧
      SOwn wr w.heap.size v acc ∧ Fr No w wr ∧ cutM (bs.drop k) cur acc = cutM bs [] []) (fun _ _ i _ => bs.length - (intOf i).toNat)
  case atStart => exact ⟨0, 0, [], [], Nat.zero_le _, rfl, rfl, rfl, by simp, by simp, by simp, World.ownsRow_nil _ _ _ _, Fr.refl _ _, rfl⟩
  case round =>
    obtain ⟨k, s, cur, acc, hk, rfl, rfl, hsk, h64, hcur, hacc, hown, hfr, hM⟩ := hrel
    by_cases hlt : k < bs.length
    · obtain ⟨g, off, rfl, hrow⟩ := hr (by simp; omega)
      have hb := hrow.bts
      have hcell := hb.fr hfr (fun _ _ x => x) k hlt
      have hd : bs.drop k = bs[k] :: bs.drop (k + 1) := List.drop_eq_getElem_cons hlt
      rw [show bs.getD k 0 = bs[k] from by simp [List.getD_eq_getElem?_getD, List.getElem?_eq_getElem hlt]] at hcell
      rw [hd] at hM
      have hnext : ∀ h : k < bs.length, (bs.drop s).take (cur.length + 1) = cur ++ [bs[k]] := fun h => by
        rw [List.take_succ_eq_append_getElem (by simp; omega), ← hcur]; simp [hsk]
      have hnx := hnext hlt
      clear hnext
      generalize bs[k] = x at *
      have HN := Lib.hid hnx; clear hnx hd
      have HM := Lib.hid hM; clear hM
      have HC := Lib.hid hcur; clear hcur
      have HS := Lib.hid hsk
      have hsle : (s : Int) ≤ k := by omega
      have hkc : (k : Int) ≤ cap := by omega
      clear hsk
      have hkl : ((k - s : Nat) : Int) = cur.length := by have := HS.out; omega
      by_cases hx : x = 10
      · have hx1 : ((x.toNat : Int) == 10) = true := by subst hx; rfl
        have hcv : (convert 31 9 (.slice (some ⟨g, off + s, none⟩) (k - s) (cap - s))).run Try.prog wr = .ok (.string ⟨cur.toArray⟩) wr := by
          have := conv_bts (P := Try.prog) (cap := cap - s) (w := wr) (b := g) (o := off + s) (l := cur) (by rw [HC.out]; exact ((hb.fr hfr (fun _ _ x => x)).drop s).take _) (src := 31) (dst := 9) Try.underlying31 Try.underlying5 Try.underlying9
          rwa [show cur.length = k - s from by omega] at this
        clear hkl
        have hz : w.heap.size ≤ wr.heap.size := hfr.size
        go_wp2_with (at_builtin; refine wpList_append_own _ rfl (.tmp 18) (.tmp 24) 36 rfl w.heap.size 9 i0 (.string ⟨#[]⟩) 1 16 Try.underlying36 hi hz0 hz1 hz2 rfl (by decide) _ _ _ rfl (World.ownsRow.alloc hown _) ⟨wr.heap.size, 0, none⟩ 1 1 [sv cur] rfl rfl (one_cell_at (by simp [go_sem, sv])) (by simp [sv, Value.oneCell']) (by unfold maxLen; omega) (by omega) (by simp; omega) ?_; intro v1 w1 hown1 hgr1 _)
        go_roundw
        case rel =>
          exact ⟨k + 1, k + 1, [], acc ++ [cur], by omega, by go_num, by go_num, by simp, by simp, by simp, by simp; omega, by simpa [SOwn] using hown1,
            hfr.step (((Fr.refl (From w.heap.size) wr).alloc _).trans (Fr.append (World.ownsRow.alloc hown _) hgr1)) (fun i o hi hT => by unfold From at hT; omega), by rw [← HM.out, cutM, if_pos hx]⟩
        case measure => simp [intOf]; omega
      · have hx1 : ((x.toNat : Int) == 10) = false := by
          simp; intro e; apply hx; exact UInt8.toNat.inj (by rw [show ((10 : UInt8).toNat) = 10 from rfl]; omega)
        by_cases hl : cur.length = 64
        · have hl1 : (64 : Int) ≤ k - s := by have := HS.out; omega
          clear hkl
          go_wp2
          go_ret3
          rw [← HM.out, cutM, if_neg hx, if_pos hl]
          exact ⟨_, rfl, hown, hfr⟩
        · have hl1 : (k : Int) - s < 64 := by have := HS.out; omega
          clear hkl
          go_wp2
          go_roundw
          case rel => exact ⟨k + 1, s, cur ++ [x], acc, by omega, by go_num, rfl, by have := HS.out; simp; omega, by simp; omega, by rw [List.length_append]; exact HN.out.symm, by omega, hown, hfr, by rw [← HM.out, cutM, if_neg hx, if_neg hl]⟩
          case measure => simp [intOf]; omega
    · obtain rfl : k = bs.length := by omega
      simp only [List.drop_length, cutM] at hM
      have HM := Lib.hid hM; clear hM
      have hsle : (s : Int) ≤ bs.length := by omega
      have hsc : (s : Int) ≤ cap := by omega
      have hsl : ∀ W : World, (Instr.slice 31 (.slice a bs.length cap) (some (.int .i64 s)) none none).run Try.prog W = .ok (.slice (subA a cap s 1) (bs.length - s) (cap - s)) W := fun W => by
        obtain ⟨j0, hj, hjz0, hjz1, hjz2⟩ := info_parts Try.info5
        have := run_slice_from W 31 5 a bs.length cap s j0 Try.underlying31 hj (by omega)
        rwa [hjz1] at this
      have hcv : ∀ n, (convert 31 9 (.slice (subA a cap s 1) (bs.length - s) (cap - s))).run Try.prog (wr.drewN n) = .ok (.string ⟨cur.toArray⟩) (wr.drewN n) := fun n => by
        have h0 : At (wr.drewN n) (subA a cap s 1) (cur.map bv) := by
          have := ((hr.fr hfr (fun _ _ _ _ _ _ x => x)).sub (cap := cap) (lo := s) (by simpa using hc)).take cur.length
          rw [hcur, List.map_take, List.map_drop]; exact this
        have := conv_at (P := Try.prog) (cap := cap - s) h0 (src := 31) (dst := 9) Try.underlying31 Try.underlying5 Try.underlying9
        rwa [show cur.length = bs.length - s from by omega] at this
      clear hcur hsk
      go_wp2_with fail
      go_quiet (fail)
      go_wp2
      go_ret3
      rw [← HM.out]
      exact ⟨_, rfl, hown, hfr.drewN nq⟩

/-- The document's splitter lies in block b: the slice v with all bytes, how many lines are told, whether it has failed. -/
structure RSpl (w : World) (b : Nat) (v : Value) (all : List UInt8) (told : Nat) (failed : Bool) : Prop where
  cv : w.cell? ⟨b, 0, none⟩ = some v
  own : OwnSl w 5 1 v all.length (all.map bv)
  told : w.cell? ⟨b, 1, none⟩ = some (.int .i64 told)
  failed : w.cell? ⟨b, 2, none⟩ = some (.bool failed)
  frz : ∀ i, i < 3 → w.frozen? ⟨b, i, none⟩ = false
  ne : v.ownBlock ≠ some b
def RSplS (b : Nat) (v : Value) : Nat → Nat → Prop := fun b' _ => b' = b ∨ v.ownBlock = some b'
theorem RSpl.lt {w : World} {b : Nat} {v : Value} {all : List UInt8} {told : Nat} {f : Bool} (h : RSpl w b v all told f) : b < w.heap.size := World.block_lt_of_cell? w _ h.cv
theorem RSpl.fr {S : Nat → Nat → Prop} {w w' : World} {b : Nat} {v : Value} {all : List UInt8} {told : Nat} {f : Bool} (h : RSpl w b v all told f) (k : Fr S w w') (hb : ∀ o, ¬ S b o) (hv : ∀ b o, v.ownBlock = some b → ¬ S b o) : RSpl w' b v all told f :=
  ⟨by rw [k.cell _ _ h.lt (hb 0)]; exact h.cv, h.own.fr k hv, by rw [k.cell _ _ h.lt (hb 1)]; exact h.told, by rw [k.cell _ _ h.lt (hb 2)]; exact h.failed, fun i hi => by rw [k.frozen _ _ h.lt (hb i)]; exact h.frz i hi, h.ne⟩
theorem OwnSl.at {w : World} {e : TypeId} {size : Nat} {v : Value} {n : Nat} {xs : List Value} (h : OwnSl w e size v n xs) : ∃ a cap, v = .slice a n cap ∧ At w a xs ∧ n ≤ cap := by
  rcases h.2 with ⟨rfl, rfl⟩ | ⟨g, off, cap, cur, rfl, hg, h1, h2, h3, hr⟩
  · have hx : xs = [] := List.eq_nil_of_length_eq_zero (by simpa using h.1)
    subst hx
    exact ⟨none, 0, rfl, At.nil _ _, Nat.le_refl _⟩
  · exact ⟨_, cap, rfl, fun _ => ⟨g, off, rfl, hr⟩, h1⟩

def RBegunPost (w : World) (n : Nat) (e : Ending) (w' : World) : Prop := e = .returned (.int .i64 n) ∧ Fr No w w'
theorem rbegun_any (b : Nat) (v : Value) (all : List UInt8) (told : Nat) (f : Bool) (w : World) (h : RSpl w b v all told f) (hn : all.length ≤ 100000000) :
    Calls Try.prog 16 #[.pointer (some ⟨b, 0, none⟩)] w (RBegunPost w (cutM all [] []).2.1.length) := by
  obtain ⟨a, cap, rfl, ha, hcap⟩ := h.own.at
  have h0 := h.cv
  go_enter Try.func16, Try.ntmps16
  have hz := size_mk (cutM all [] []).2.1
  generalize hM : cutM all [] [] = M at *
  have HM := Lib.hid hM; clear hM
  go_wp2_with (go_at_call 20; refine (rlines_any _ _ _ _ _ rfl ha hn hcap).mono ?_; rw [HM.out]; rintro e w1 ⟨v1, rfl, hown1, hfr1⟩)
  go_ret
  exact ⟨rfl, hfr1⟩

def RRestPost (w : World) (b : Nat) (v : Value) (all : List UInt8) (told : Nat) (f : Bool) (M : List (List UInt8) × List UInt8 × Bool) (e : Ending) (w' : World) : Prop :=
  e = .returned (.tuple #[sv M.2.1, .bool (!M.2.1.isEmpty)]) ∧ Fr (fun b' _ => b' = b) w w' ∧
    ((M.2.1 = [] ∧ RSpl w' b v all told f) ∨ (M.2.1 ≠ [] ∧ RSpl w' b (.slice none 0 0) [] 0 f))
theorem rrest_any (b : Nat) (v : Value) (all : List UInt8) (told : Nat) (f : Bool) (w : World) (h : RSpl w b v all told f) (hn : all.length ≤ 100000000) :
    Calls Try.prog 11 #[.pointer (some ⟨b, 0, none⟩)] w (RRestPost w b v all told f (cutM all [] [])) := by
  obtain ⟨a, cap, rfl, ha, hcap⟩ := h.own.at
  have h0 := h.cv
  generalize hM : cutM all [] [] = M
  obtain ⟨ls, rs, fl⟩ := M
  have HM := Lib.hid hM; clear hM
  cases rs with
  | nil =>
    go_enter Try.func11, Try.ntmps11
    go_wp2_with (go_at_call 20; refine (rlines_any _ _ _ _ _ rfl ha hn hcap).mono ?_; rw [HM.out]; rintro e w1 ⟨v1, rfl, hown1, hfr1⟩)
    go_ret2
    exact ⟨rfl, hfr1.mono (fun _ _ _ x => x.elim), .inl ⟨rfl, h.fr hfr1 (fun _ x => x) (fun _ _ _ x => x)⟩⟩
  | cons r0 rs =>
    have Hr := Lib.hid h; clear h
    go_enter Try.func11, Try.ntmps11
    go_wp2_with (go_at_call 20; refine (rlines_any _ _ _ _ _ rfl ha hn hcap).mono ?_; rw [HM.out]; rintro e w1 ⟨v1, rfl, hown1, hfr1⟩; have h1 := Hr.out.fr hfr1 (fun _ x => x) (fun _ _ _ x => x); have g0 := h1.cv; have g1 := h1.told; have f0 := h1.frz 0 (by omega); have f1 := h1.frz 1 (by omega); clear h0)
    go_ret2
    refine ⟨rfl, ((hfr1.mono (T := fun b' _ => b' = b) (fun _ _ _ x => x.elim)).setCell (b := b) (o := 0) (fun _ => rfl) _).setCell (b := b) (o := 1) (fun _ => rfl) _, .inr ⟨by simp, ⟨?_, OwnSl.nil _ _ _, ?_, ?_, fun i hi => ?_, by simp [Value.ownBlock]⟩⟩⟩
    · rw [World.cell?_setCell_other _ _ _ _ (ne_off (by omega)), World.cell?_setCell_same _ _ _ g0]
    · rw [World.cell?_setCell_same _ _ _ (by rw [World.cell?_setCell_other _ _ _ _ (ne_off (by omega))]; exact g1)]; rfl
    · rw [World.cell?_setCell_other _ _ _ _ (ne_off (by omega)), World.cell?_setCell_other _ _ _ _ (ne_off (by omega))]; exact h1.failed
    · rw [World.frozen?_setCell, World.frozen?_setCell]; exact h1.frz i hi

/-- What Cut of the document's splitter answers, and leaves. -/
def RCutPost (w : World) (b : Nat) (v : Value) (all : List UInt8) (told : Nat) (M : List (List UInt8) × List UInt8 × Bool) (e : Ending) (w' : World) : Prop :=
  ∃ v1 a cap, e = .returned (.tuple #[.slice a (M.1.length - told) cap, .bool M.2.2]) ∧
    At w' a ((M.1.drop told).map sv) ∧ (∀ g off, a = some ⟨g, off, none⟩ → w.heap.size ≤ g ∧ v1.ownBlock ≠ some g) ∧
    RSpl w' b v1 all M.1.length M.2.2 ∧ Fr (RSplS b v) w w' ∧ (v1.ownBlock = v.ownBlock ∨ v1.ownBlock = some w.heap.size)
set_option maxHeartbeats 1000000 in
theorem rcut_any (b : Nat) (v : Value) (all : List UInt8) (told : Nat) (xa : Option Addr) (c : Nat) (bs : List UInt8) (w : World) (h : RSpl w b v all told false) (hx : At w xa (bs.map bv)) (hn : (all ++ bs).length ≤ 100000000)
    (ht : told ≤ (cutM (all ++ bs) [] []).1.length) :
    Calls Try.prog 13 #[.pointer (some ⟨b, 0, none⟩), .slice xa bs.length c] w (RCutPost w b v (all ++ bs) told (cutM (all ++ bs) [] [])) := by
  obtain ⟨i0, hi, hz0, hz1, hz2⟩ := info_parts Try.info5
  obtain ⟨j0, hj, jz0, jz1, jz2⟩ := info_parts Try.info9
  have h0 := h.cv
  have h2 := h.failed
  generalize hM : cutM (all ++ bs) [] [] = M at *
  obtain ⟨ls, rs, fl⟩ := M
  have hll : ls.length ≤ 100000000 := by have := cutM_len (all ++ bs) [] []; rw [hM] at this; simp at this hn ⊢; omega
  have ht1 : (told : Int) ≤ ls.length := by simp at ht; omega
  have HM := Lib.hid hM; clear hM
  have Hr := Lib.hid h; clear h
  go_enter Try.func13, Try.ntmps13
  go_wp2_with (first
    | (at_builtin; refine wpList_append_sl rfl (.tmp 17) (.tmp 18) 31 31 rfl 5 i0 (.int .u8 0) 1 1 Try.underlying31 hi hz0 hz1 hz2 rfl (by decide) v _ _ rfl Hr.out.own _ bs.length _ rfl (src_slice Try.underlying31 (by simp) hx (by simp [Value.oneCell'])) (by simp at hn; omega) (by simp at hn; omega) ?_; intro v1 w1 hown1 hfr1 hblk1;
        have hb1 : ∀ o, ¬ Blk v b o := (fun o e => Hr.out.ne e);
        have hlt1 := Hr.out.lt;
        have g0 : w1.cell? ⟨b, 0, none⟩ = some v := (by rw [hfr1.cell _ _ hlt1 (hb1 0)]; exact Hr.out.cv);
        have f0 : w1.frozen? ⟨b, 0, none⟩ = false := (by rw [hfr1.frozen _ _ hlt1 (hb1 0)]; exact Hr.out.frz 0 (by omega));
        have HG := Lib.hid (And.intro hfr1 hblk1);
        have hne1 := hblk1;
        obtain ⟨a1, cap1, hv1, ha1, hc1⟩ := hown1.at; subst hv1;
        have HN : Hid (∀ g off, a1 = some ⟨g, off, none⟩ → g = b → False) := Lib.hid (by
          intro g off e1 e2
          subst e1; subst e2
          rcases HG.out.2 with e | e
          · exact Hr.out.ne e.symm
          · have : some g = some w.heap.size := e
            injection this with e; omega);
        have hfr2 := frSet w1 b 0 (.slice a1 (all.length + bs.length) cap1);
        have hlt1' : b < w1.heap.size := Nat.lt_of_lt_of_le hlt1 hfr1.size;
        clear h0 h2 hb1 hblk1 hne1 hfr1)
    | (go_at_call 20; refine (rlines_any _ _ _ (all ++ bs) _ (by simp) (by rw [List.map_append]; exact ha1.fr hfr2 (fun g off e _ i _ hS => HN.out g off e hS.1)) hn (by simpa using hc1)).mono ?_; rw [HM.out]; rintro e w3 ⟨v2, rfl, hown3, hfr3⟩;
        obtain ⟨a2, cap2, hv2, ha2, hc2⟩ := (own_of_row hown3).1.at; subst hv2;
        dsimp only at ha2 hc2 hown3 ⊢;
        have hb2 : b < (w1.setCell ⟨b, 0, none⟩ (.slice a1 (all.length + bs.length) cap1)).heap.size := (by simpa [World.setCell] using hlt1');
        have hb1 : ∀ o, ¬ Blk v b o := (fun o e => Hr.out.ne e);
        have g1 : w3.cell? ⟨b, 1, none⟩ = some (.int .i64 told) := (by rw [hfr3.cell _ _ hb2 (fun x => x), World.cell?_setCell_other _ _ _ _ (ne_off (by omega)), HG.out.1.cell _ _ hlt1 (hb1 1)]; exact Hr.out.told);
        have f1 : w3.frozen? ⟨b, 1, none⟩ = false := (by rw [hfr3.frozen _ _ hb2 (fun x => x), World.frozen?_setCell, HG.out.1.frozen _ _ hlt1 (hb1 1)]; exact Hr.out.frz 1 (by omega));
        have g2 : w3.cell? ⟨b, 2, none⟩ = some (.bool false) := (by rw [hfr3.cell _ _ hb2 (fun x => x), World.cell?_setCell_other _ _ _ _ (ne_off (by omega)), HG.out.1.cell _ _ hlt1 (hb1 2)]; exact Hr.out.failed);
        have f2 : w3.frozen? ⟨b, 2, none⟩ = false := (by rw [hfr3.frozen _ _ hb2 (fun x => x), World.frozen?_setCell, HG.out.1.frozen _ _ hlt1 (hb1 2)]; exact Hr.out.frz 2 (by omega));
        have hsl : ∀ W : World, (Instr.slice 36 (.slice a2 ls.length cap2) (some (.int .i64 told)) none none).run Try.prog W = .ok (.slice (subA a2 cap2 told 1) (ls.length - told) (cap2 - told)) W := (fun W => by
          have := run_slice_from W 36 9 a2 ls.length cap2 told j0 Try.underlying36 hj ht
          rwa [jz1] at this);
        clear hb1 g0 f0 hb2)
    | fail)
  go_ret2
  have hb0 := HG.out.2
  have hne : (Value.slice a1 (all.length + bs.length) cap1).ownBlock ≠ some b := by
    rcases hb0 with e | e
    · rw [e]; exact Hr.out.ne
    · rw [e]; intro e; injection e with e; omega
  have hown2 := hown1.fr hfr2 (fun b' o' e => by rintro ⟨rfl, _⟩; exact hne e)
  have hb2 : b < (w1.setCell ⟨b, 0, none⟩ (.slice a1 (all.length + bs.length) cap1)).heap.size := by simpa [World.setCell] using hlt1'
  have hown3' := hown2.fr hfr3 (fun _ _ _ x => x)
  have h20 : w3.cell? ⟨b, 0, none⟩ = some (.slice a1 (all.length + bs.length) cap1) := by
    rw [hfr3.cell _ _ hb2 (fun x => x)]
    exact cell_here (u := v) (by rw [HG.out.1.cell _ _ hlt1 (fun e => Hr.out.ne e)]; exact Hr.out.cv)
  have e1 : (told : Int) + ((ls.length - told : Nat) : Int) = ls.length := by omega
  rw [e1]
  have hk2 := (own_of_row hown3).2
  have hs2 : (w1.setCell ⟨b, 0, none⟩ (.slice a1 (all.length + bs.length) cap1)).heap.size = w1.heap.size := by simp [World.setCell]
  rw [hs2] at hk2
  have hws := HG.out.1.size
  have hA : ∀ g off, subA a2 cap2 told 1 = some ⟨g, off, none⟩ → w1.heap.size ≤ g := fun g off e => hk2 g (subA_own e)
  refine ⟨_, subA a2 cap2 told 1, cap2 - told, rfl, ?_, ?_, ⟨?_, ?_, ?_, ?_, ?_, hne⟩, ?_, hb0⟩
  · have h3 := ha2.sub (lo := told) (by simpa using hc2)
    rw [← List.map_drop] at h3
    refine (h3.fr (frSet w3 b 1 (.int .i64 ls.length)) (fun g off e _ i _ => ?_)).fr (frSet _ b 2 (.bool fl)) (fun g off e _ i _ => ?_)
    · rintro ⟨rfl, _⟩; have := hA _ _ e; omega
    · rintro ⟨rfl, _⟩; have := hA _ _ e; omega
  · intro g off e
    have h4 := hA g off e
    exact ⟨by omega, fun e' => by have := hown1.lt g e'; omega⟩
  · rw [cell_set (by omega), cell_set (by omega)]; exact h20
  · have h5 := (hown3'.fr (frSet w3 b 1 (.int .i64 ls.length)) (fun b' o' e => by rintro ⟨rfl, _⟩; exact hne e)).fr (frSet _ b 2 (.bool fl)) (fun b' o' e => by rintro ⟨rfl, _⟩; exact hne e)
    simpa using h5
  · rw [cell_set (by omega)]; exact cell_here g1
  · exact cell_here (u := .bool false) (by rw [cell_set (by omega)]; exact g2)
  · intro i hi
    rw [World.frozen?_setCell, World.frozen?_setCell, hfr3.frozen _ _ hb2 (fun x => x), World.frozen?_setCell, HG.out.1.frozen _ _ hlt1 (fun e => Hr.out.ne e)]
    exact Hr.out.frz i hi
  · have k1 : Fr (RSplS b v) w w1 := HG.out.1.mono (fun _ _ _ e => .inr e)
    exact (((k1.step hfr2 (fun i o _ e => .inl e.1)).step hfr3 (fun _ _ _ x => x.elim)).setCell (fun _ => .inl rfl) _).setCell (fun _ => .inl rfl) _

/-- Cut, of one that has failed. -/
theorem rcut_failed (b : Nat) (v x : Value) (all : List UInt8) (told : Nat) (w : World) (h : RSpl w b v all told true) :
    Calls Try.prog 13 #[.pointer (some ⟨b, 0, none⟩), x] w fun e w' => e = .returned (.tuple #[.slice none 0 0, .bool true]) ∧ w = w' := by
  have h2 := h.failed
  go_enter Try.func13, Try.ntmps13
  go_wp2
  go_ret2
  exact ⟨rfl, rfl⟩

end Go.Proofs.Ytmjmaffbnejccaa
