/- Walks over the line splitter: Begun, Rest, Cut, Join. -/
import Derived.Test.YtjnebkoohimgjaaDoorPlain
import Derived.Test.YtjnebkoohimgjaaDoorRows
import Derived.Test.YtjnebkoohimgjaaDoorBase
namespace Go.Proofs.YtjnebkoohimgjaaDoor
open Go.RowKit

set_option maxRecDepth 100000 in
theorem begun_nil (w : World) : Calls Tryd.prog 122 #[.pointer none] w fun e w' => e = .returned (.int .i64 0) ∧ w = w' := by
  go_enter Tryd.func122, Tryd.ntmps122
  go_wp2
  go_ret
  exact ⟨rfl, rfl⟩

set_option maxRecDepth 100000 in
theorem begun_any (b o : Nat) (n : Int) (w : World) (h64 : w.cell? ⟨b, o + 64, none⟩ = some (.int .i64 n)) :
    Calls Tryd.prog 122 #[.pointer (some ⟨b, o, none⟩)] w fun e w' => e = .returned (.int .i64 n) ∧ w = w' := by
  go_enter Tryd.func122, Tryd.ntmps122
  go_wp2
  go_ret
  exact ⟨rfl, rfl⟩

set_option maxRecDepth 100000 in
theorem rest_nil (w : World) : Calls Tryd.prog 117 #[.pointer none] w fun e w' => e = .returned (.tuple #[.string ⟨#[]⟩, .bool false]) ∧ w = w' := by
  go_enter Tryd.func117, Tryd.ntmps117
  go_wp2_with (go_at_call 122; refine (begun_nil _).mono ?_; rintro e w' ⟨rfl, rfl⟩)
  go_ret2
  exact ⟨rfl, rfl⟩

/-- A splitter lies at b, o: the line that is begun, and whether it has failed. -/
structure SplAt (w : World) (b o : Nat) (cs : List UInt8) (failed : Bool) : Prop where
  len : cs.length ≤ 64
  full : ∃ full : List UInt8, full.length = 64 ∧ full.take cs.length = cs ∧ Bts w b o full
  n : w.cell? ⟨b, o + 64, none⟩ = some (.int .i64 cs.length)
  failed : w.cell? ⟨b, o + 65, none⟩ = some (.bool failed)
  frz : ∀ i, i < 66 → w.frozen? ⟨b, o + i, none⟩ = false

/-- The cells of a splitter. -/
def SplS (b o : Nat) : Nat → Nat → Prop := fun b' o' => b' = b ∧ o ≤ o' ∧ o' < o + 66

theorem SplAt.lt {w : World} {b o : Nat} {cs : List UInt8} {f : Bool} (h : SplAt w b o cs f) : b < w.heap.size := World.block_lt_of_cell? w _ h.n
theorem SplAt.fr {S : Nat → Nat → Prop} {w w' : World} {b o : Nat} {cs : List UInt8} {f : Bool} (h : SplAt w b o cs f) (k : Fr S w w') (hS : ∀ i, i < 66 → ¬ S b (o + i)) : SplAt w' b o cs f := by
  obtain ⟨full, h1, h2, h3⟩ := h.full
  exact ⟨h.len, ⟨full, h1, h2, h3.fr k fun i hi => hS i (by omega)⟩, by rw [k.cell _ _ h.lt (hS 64 (by omega))]; exact h.n, by rw [k.cell _ _ h.lt (hS 65 (by omega))]; exact h.failed,
    fun i hi => by rw [k.frozen _ _ h.lt (hS i hi)]; exact h.frz i hi⟩

/-- The count is set back to 0: the line that is begun is none. -/
theorem SplAt.zero {w : World} {b o : Nat} {cs : List UInt8} {f : Bool} (h : SplAt w b o cs f) : SplAt (w.setCell ⟨b, o + 64, none⟩ (.int .i64 0)) b o [] f := by
  obtain ⟨full, h1, h2, h3⟩ := h.full
  refine ⟨by simp, ⟨full, h1, by simp, fun i hi => ?_⟩, ?_, ?_, fun i hi => ?_⟩
  · rw [World.cell?_setCell_other _ _ _ _ (ne_off (by omega))]; exact h3 i hi
  · rw [World.cell?_setCell_same _ _ _ h.n]; rfl
  · rw [World.cell?_setCell_other _ _ _ _ (ne_off (by omega))]; exact h.failed
  · rw [World.frozen?_setCell]; exact h.frz i hi
/-- It has failed. -/
theorem SplAt.fail {w : World} {b o : Nat} {cs : List UInt8} {f : Bool} (h : SplAt w b o cs f) (g : Bool) : SplAt (w.setCell ⟨b, o + 65, none⟩ (.bool g)) b o cs g := by
  obtain ⟨full, h1, h2, h3⟩ := h.full
  refine ⟨h.len, ⟨full, h1, h2, fun i hi => ?_⟩, ?_, ?_, fun i hi => ?_⟩
  · rw [World.cell?_setCell_other _ _ _ _ (ne_off (by omega))]; exact h3 i hi
  · rw [World.cell?_setCell_other _ _ _ _ (ne_off (by omega))]; exact h.n
  · rw [World.cell?_setCell_same _ _ _ h.failed]
  · rw [World.frozen?_setCell]; exact h.frz i hi
/-- A byte more. -/
theorem SplAt.push {w : World} {b o : Nat} {cs : List UInt8} {f : Bool} (h : SplAt w b o cs f) (hl : cs.length < 64) (x : UInt8) :
    SplAt ((w.setCell ⟨b, o + cs.length, none⟩ (.int .u8 x.toNat)).setCell ⟨b, o + 64, none⟩ (.int .i64 (cs.length + 1))) b o (cs ++ [x]) f := by
  obtain ⟨full, h1, h2, h3⟩ := h.full
  refine ⟨by simp; omega, ⟨full.set cs.length x, by simp [h1], ?_, fun i hi => ?_⟩, ?_, ?_, fun i hi => ?_⟩
  · apply List.ext_getElem?
    intro i
    simp only [List.length_append, List.length_cons, List.length_nil, List.getElem?_take, List.getElem?_set, List.getElem?_append]
    by_cases h4 : i < cs.length
    · have h5 : cs[i]? = full[i]? := by rw [← h2]; simp [List.getElem?_take]; omega
      rw [if_pos (by omega), if_neg (by omega), if_pos h4, h5]
    · by_cases h6 : i = cs.length
      · subst h6; simp [h1, hl]
      · rw [if_neg (by omega), if_neg h4]; simp; omega
  · have hi' : i < 64 := by simpa [h1] using hi
    rw [World.cell?_setCell_other _ _ _ _ (ne_off (by omega))]
    by_cases h4 : i = cs.length
    · subst h4
      rw [World.cell?_setCell_same _ _ _ (h3 _ (by omega))]
      simp [List.getD_eq_getElem?_getD, h1, hl]
    · rw [World.cell?_setCell_other _ _ _ _ (ne_off (by omega)), h3 i (by omega)]
      simp [List.getD_eq_getElem?_getD, Ne.symm h4]
  · rw [World.cell?_setCell_same _ _ _ (u := .int .i64 cs.length) (by rw [World.cell?_setCell_other _ _ _ _ (ne_off (by omega))]; exact h.n)]; simp
  · rw [World.cell?_setCell_other _ _ _ _ (ne_off (by omega)), World.cell?_setCell_other _ _ _ _ (ne_off (by omega))]; exact h.failed
  · rw [World.frozen?_setCell, World.frozen?_setCell]; exact h.frz i hi

theorem rep_get {α : Type} (n : Nat) (a : α) (l : List α) (i : Nat) (h : i < n) : (List.replicate n a ++ l)[i]? = some a := by
  rw [List.getElem?_append_left (by simpa using h), List.getElem?_replicate, if_pos h]
theorem rep_getD {α : Type} (n : Nat) (a d : α) (i : Nat) (h : i < n) : (List.replicate n a).getD i d = a := by
  rw [List.getD_eq_getElem?_getD, List.getElem?_replicate, if_pos h]; rfl
/-- A new splitter's cells. -/
def splZero : Array Value := (List.replicate 64 (Value.int .u8 0) ++ [Value.int .i64 0, Value.bool false]).toArray
/-- A splitter that is the part from o on of a new block. -/
theorem spl_new (w : World) (c : Array Value) (t : TypeId) (o : Nat) (h : ∀ i, i < 66 → c[o + i]? = splZero[i]?) : SplAt (w.alloc (.cells c t)) w.heap.size o [] false := by
  have hc : ∀ i, i < 66 → (w.alloc (.cells c t)).cell? ⟨w.heap.size, o + i, none⟩ = splZero[i]? := fun i hi => by rw [World.cell?_alloc_new, h i hi]
  refine ⟨by simp, ⟨List.replicate 64 0, List.length_replicate, by simp, fun i hi => ?_⟩, ?_, ?_, fun i _ => World.frozen?_alloc_new _ _ _ _⟩
  · have hi' : i < 64 := by rwa [List.length_replicate] at hi
    rw [hc i (by omega), rep_getD 64 _ _ i hi']
    unfold splZero
    rw [List.getElem?_toArray, rep_get 64 _ _ i hi']; rfl
  · rw [hc 64 (by omega)]; rfl
  · rw [hc 65 (by omega)]; rfl

set_option maxRecDepth 100000 in
theorem rest_zero (b o : Nat) (w : World) (h64 : w.cell? ⟨b, o + 64, none⟩ = some (.int .i64 0)) :
    Calls Tryd.prog 117 #[.pointer (some ⟨b, o, none⟩)] w fun e w' => e = .returned (.tuple #[.string ⟨#[]⟩, .bool false]) ∧ w = w' := by
  go_enter Tryd.func117, Tryd.ntmps117
  go_wp2_with (go_at_call 122; refine (begun_any _ _ _ _ h64).mono ?_; rintro e w' ⟨rfl, rfl⟩)
  go_ret2
  exact ⟨rfl, rfl⟩

set_option maxRecDepth 100000 in
theorem rest_some (b o : Nat) (l : List UInt8) (w : World) (h0 : 0 < l.length) (hl : l.length ≤ 64)
    (hc : Bts w b o l)
    (h64 : w.cell? ⟨b, o + 64, none⟩ = some (.int .i64 l.length)) (f64 : w.frozen? ⟨b, o + 64, none⟩ = false) :
    Calls Tryd.prog 117 #[.pointer (some ⟨b, o, none⟩)] w fun e w' => e = .returned (.tuple #[.string ⟨l.toArray⟩, .bool true]) ∧ w' = w.setCell ⟨b, o + 64, none⟩ (.int .i64 0) := by
  have ht : ((l.length : Int) == 0) = false := by simp; intro h; simp [h] at h0
  have hal : Tryd.prog.arrayLen 75 = 64 := by kernel_rfl
  have hl' : (l.length : Int) ≤ 64 := by omega
  have hB : Bts (w.setCell ⟨b, o + 64, none⟩ (.int .i64 0)) b o l := fun i hi => by
    rw [World.cell?_setCell_other _ _ _ _ (ne_off (by omega))]; exact hc i hi
  have hcv := conv_bts (P := Tryd.prog) (cap := 64) hB (src := 22) (dst := 9) Tryd.underlying22 Tryd.underlying5 Tryd.underlying9
  clear hc hB
  go_enter Tryd.func117, Tryd.ntmps117
  go_wp2_with (go_at_call 122; refine (begun_any _ _ _ _ h64).mono ?_; rintro e w' ⟨rfl, rfl⟩)
  go_ret2
  exact ⟨rfl, rfl⟩

/-- Rest, of any splitter. -/
theorem rest_calls (b o : Nat) (cs : List UInt8) (f : Bool) (w : World) (h : SplAt w b o cs f) :
    Calls Tryd.prog 117 #[.pointer (some ⟨b, o, none⟩)] w fun e w' => e = .returned (.tuple #[sv cs, .bool (!cs.isEmpty)]) ∧ SplAt w' b o [] f ∧ Fr (SplS b o) w w' := by
  obtain ⟨full, h1, h2, h3⟩ := h.full
  by_cases h0 : cs = []
  · subst h0
    refine (rest_zero b o w h.n).mono ?_
    rintro e w' ⟨rfl, rfl⟩
    exact ⟨rfl, h, Fr.refl _ _⟩
  · have hp : 0 < cs.length := by cases cs <;> simp_all
    refine (rest_some b o cs w hp h.len (by rw [← h2]; exact h3.take _) h.n (h.frz 64 (by omega))).mono ?_
    rintro e w' ⟨rfl, rfl⟩
    refine ⟨by cases cs <;> simp_all [sv], h.zero, (Fr.refl _ _).setCell (fun _ => ⟨rfl, by omega, by omega⟩) _⟩


theorem Tryd.info9 : (Tryd.prog.info? 9).map (fun i => (i.zero, i.size, i.bytes)) = some (some (.string ⟨#[]⟩), 1, 16) := by kernel_rfl

/-- What Cut answers, and leaves. -/
def CutPost (w : World) (b o : Nat) (r : List (List UInt8) × List UInt8 × Bool) (e : Ending) (w' : World) : Prop :=
  ∃ v, e = .returned (.tuple #[v, .int .i64 (if r.2.2 then 20 else 0)]) ∧ w'.ownsRow w.heap.size 9 1 v r.1.length (r.1.map sv) ∧ SplAt w' b o r.2.1 r.2.2 ∧ Fr (SplS b o) w w'

set_option maxHeartbeats 1000000 in
set_option maxRecDepth 100000 in
theorem cut_any (b o g off cap : Nat) (cs bs : List UInt8) (w : World) (h : SplAt w b o cs false) (hb : Bts w g off bs) (hgb : g ≠ b) (hbs : bs.length ≤ 1000000) :
    Calls Tryd.prog 121 #[.pointer (some ⟨b, o, none⟩), .slice (some ⟨g, off, none⟩) bs.length cap] w (CutPost w b o (cutM bs cs [])) := by
  obtain ⟨i0, hi, hz0, hz1, hz2⟩ := info_parts Tryd.info9
  have hf0 := h.failed
  have hbw0 := h.lt
  go_enter Tryd.func121, Tryd.ntmps121
  go_wp2
  clear hf0
  go_loopw [6, 19] (fun v i wr => ∃ (k : Nat) (acc : List (List UInt8)) (ds : List UInt8), k ≤ bs.length ∧ i = .int .i64 k ∧ wr.ownsRow w.heap.size 9 1 v acc.length (acc.map sv) ∧
      SplAt wr b o ds false ∧ Fr (SplS b o) w wr ∧ acc.length ≤ k ∧ cutM (bs.drop k) ds acc = cutM bs cs []) (fun _ i _ => bs.length - (intOf i).toNat)
  case atStart => exact ⟨0, [], cs, Nat.zero_le _, rfl, World.ownsRow_nil _ _ _ _, h, Fr.refl _ _, Nat.le_refl _, rfl⟩
  case round =>
    obtain ⟨k, acc, ds, hk, rfl, hown, hspl, hfr, hacc, hM⟩ := hrel
    by_cases hlt : k < bs.length
    · have hcell := hb.fr hfr (fun i _ => by rintro ⟨rfl, _⟩; exact hgb rfl) k hlt
      have hd : bs.drop k = bs[k] :: bs.drop (k + 1) := List.drop_eq_getElem_cons hlt
      rw [show bs.getD k 0 = bs[k] from by simp [List.getD_eq_getElem?_getD, List.getElem?_eq_getElem hlt]] at hcell
      generalize bs[k] = x at *
      rw [hd] at hM
      clear hd
      have hn := hspl.n
      have hal : Tryd.prog.arrayLen 75 = 64 := by kernel_rfl
      have hdl : (ds.length : Int) ≤ 64 := by have := hspl.len; omega
      have HM := Lib.hid hM; clear hM
      by_cases hx : x = 10
      · have hx1 : ((x.toNat : Int) == 10) = true := by subst hx; rfl
        have hcv := conv_bts (P := Tryd.prog) (cap := 64) (l := ds) (w := wr.drew) (b := b) (o := o) (by obtain ⟨full, _, h2, h3⟩ := hspl.full; rw [← h2]; exact (h3.take _ : Bts wr b o _)) (src := 22) (dst := 9) Tryd.underlying22 Tryd.underlying5 Tryd.underlying9
        go_wp2
        go_region_law (refine step_append_own rfl (.tmp 42) (.tmp 52) 49 rfl w.heap.size 9 i0 (.string ⟨#[]⟩) 1 16 Tryd.underlying49 hi hz0 hz1 hz2 rfl (by decide) u6 acc.length (acc.map sv) rfl (hown.alloc _) ⟨wr.heap.size, 0, none⟩ 1 1 [sv ds] rfl rfl (one_cell_at (by simp [go_sem, sv])) (by simp [sv, Value.oneCell']) (by unfold maxLen; omega) (by omega) (by simpa using Nat.le_succ_of_le hfr.size) ?_; intro v' w1 hown1 hgr1)
        have hfr1 : Fr (From w.heap.size) wr w1 := ((Fr.refl _ wr).drew.alloc _).trans (Fr.append (hown.alloc _) hgr1)
        have hbw := hspl.lt
        have hspl1 := hspl.fr hfr1 (fun i _ => by unfold From; omega)
        have hfr2 := hfr.step hfr1 (fun i o hi hT => by unfold From at hT; omega)
        have hn1 := hspl1.n
        have hf1 := hspl1.frz 64 (by omega)
        clear hfr1 hcv hn hgr1 hcell
        go_wp2
        go_roundw
        case rel => exact ⟨k + 1, acc ++ [ds], [], by omega, by go_num, by simpa using ownsRow_fr hown1 (frSet _ _ _ _) (fun b' o' h1 _ => by rintro ⟨rfl, rfl⟩; omega), hspl1.zero, hfr2.setCell (fun _ => ⟨rfl, by omega, by omega⟩) _, by simp; omega, by rw [← HM.out, cutM, if_pos hx]⟩
        case measure => simp [intOf]; omega
      · have hx1 : ((x.toNat : Int) == 10) = false := by
          simp; intro e; apply hx; exact UInt8.toNat.inj (by rw [show ((10 : UInt8).toNat) = 10 from rfl]; omega)
        by_cases hl : ds.length = 64
        · have hl1 : ((ds.length : Int) == 64) = true := by simp [hl]
          have hf1 := hspl.frz 64 (by omega)
          have hf2 := hspl.frz 65 (by omega)
          have hfa := hspl.failed
          go_wp2
          go_ret2
          rw [← HM.out, cutM, if_neg hx, if_pos hl]
          have e1 := hspl.fail true
          exact ⟨_, rfl, by simpa using ownsRow_fr (ownsRow_fr hown (frSet _ b (o + 65) (.bool true)) (fun b' o' h1 _ => by rintro ⟨rfl, rfl⟩; omega)) (frSet _ b (o + 64) (.int .i64 0)) (fun b' o' h1 _ => by rintro ⟨rfl, rfl⟩; omega), e1.zero,
            (hfr.setCell (fun _ => ⟨rfl, by omega, by omega⟩) _).setCell (fun _ => ⟨rfl, by omega, by omega⟩) _⟩
        · have hl1 : ((ds.length : Int) == 64) = false := by simp; omega
          have hf1 := hspl.frz 64 (by omega)
          have hf2 := hspl.frz ds.length (by omega)
          obtain ⟨y, hc2⟩ : ∃ y : Value, wr.cell? ⟨b, o + ds.length, none⟩ = some y := by
            obtain ⟨full, h1, h2, h3⟩ := hspl.full
            exact ⟨_, h3 ds.length (by omega)⟩
          have hl2 : (ds.length : Int) < 64 := by omega
          go_wp2
          go_still_tail 9, (by kernel_rfl)
          change wpList _ _ _ _ _ wr.drew
          go_wp2
          go_roundw
          case rel =>
            exact ⟨k + 1, acc, ds ++ [x], by omega, by go_num, ownsRow_fr (ownsRow_fr hown (frSet wr b (o + ds.length) (.int .u8 x.toNat)) (fun b' o' h1 _ => by rintro ⟨rfl, rfl⟩; omega)) (frSet _ b (o + 64) (.int .i64 (ds.length + 1))).drew (fun b' o' h1 _ => by rintro ⟨rfl, rfl⟩; omega),
              (hspl.push (by omega) x).fr (Fr.refl No _).drew (fun _ _ x => x), ((hfr.setCell (fun _ => ⟨rfl, by omega, by omega⟩) _).setCell (fun _ => ⟨rfl, by omega, by omega⟩) _).drew, by omega, by rw [← HM.out, cutM, if_neg hx, if_neg hl]⟩
          case measure => simp [intOf]; omega
    · have hke : k = bs.length := by omega
      go_wp2
      go_ret2
      subst hke
      simp only [List.drop_length, cutM] at hM
      rw [← hM]
      exact ⟨_, rfl, hown, hspl, hfr⟩
/- Cut, of no bytes: a nil slice, too. -/
set_option maxRecDepth 100000 in
theorem cut_none (b o n : Nat) (a : Option Addr) (cs : List UInt8) (w : World) (h : SplAt w b o cs false) :
    Calls Tryd.prog 121 #[.pointer (some ⟨b, o, none⟩), .slice a 0 n] w (CutPost w b o (cutM [] cs [])) := by
  have hf0 := h.failed
  go_enter Tryd.func121, Tryd.ntmps121
  go_wp2
  refine wp_loop_once ?_
  go_wp2
  go_ret2
  exact ⟨_, rfl, World.ownsRow_nil _ _ _ _, h, Fr.refl _ _⟩

/- Cut, of one that has failed. -/
set_option maxRecDepth 100000 in
theorem cut_failed (b o : Nat) (v : Value) (cs : List UInt8) (w : World) (h : SplAt w b o cs true) :
    Calls Tryd.prog 121 #[.pointer (some ⟨b, o, none⟩), v] w fun e w' => e = .returned (.tuple #[.slice none 0 0, .int .i64 20]) ∧ w = w' := by
  have hf0 := h.failed
  go_enter Tryd.func121, Tryd.ntmps121
  go_wp2
  go_ret2
  exact ⟨rfl, rfl⟩
set_option maxRecDepth 100000 in
theorem cut_nil (v : Value) (w : World) :
    Calls Tryd.prog 121 #[.pointer none, v] w fun e w' => e = .returned (.tuple #[.slice none 0 0, .int .i64 20]) ∧ w = w' := by
  go_enter Tryd.func121, Tryd.ntmps121
  go_wp2
  go_ret2
  exact ⟨rfl, rfl⟩

end Go.Proofs.YtjnebkoohimgjaaDoor
