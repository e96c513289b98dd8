/- Turn: the machine, walked. -/
import Derived.Test.YtcplbhjpefmliaaLns
import Derived.Deep.WholeRow
import Derived.Laws.EntriesVeiled
import Derived.Laws.Externs
import Derived.Lib.BytesEntry
import Derived.Lib.IndexLaws
import Derived.Deep.RegionHeld3
namespace Go.Proofs.Ytcplbhjpefmliaa
open Go.RowKit

/-- What becomes of a byte. -/
def becomes (A B : List UInt8) (c : UInt8) : List UInt8 := if c ∈ A then (if h : A.idxOf c < B.length then [B[A.idxOf c]] else []) else [c]
theorem becomes_len (A B : List UInt8) (c : UInt8) : (becomes A B c).length ≤ 1 := by
  unfold becomes; split
  · split <;> simp
  · simp
theorem flat_len (A B : List UInt8) : ∀ c : List UInt8, (c.flatMap (becomes A B)).length ≤ c.length
  | [] => by simp
  | x :: c => by
    have h1 := becomes_len A B x
    have h2 := flat_len A B c
    simp only [List.flatMap_cons, List.length_append, List.length_cons]; omega
theorem idx_eq (l : List UInt8) (c : UInt8) : Lib.indexByte l c = idxB l c := by
  have h1 := Lib.indexByte_ge l c
  by_cases h : Lib.indexByte l c = -1
  · have hn := Lib.indexByte_none h
    have : c ∉ l := fun hm => by
      obtain ⟨k, hk, e⟩ := List.getElem_of_mem hm
      exact hn k (by rw [List.getElem?_eq_getElem hk, e])
    unfold idxB; rw [if_neg this, h]
  · obtain ⟨o, ho⟩ : ∃ o : Nat, Lib.indexByte l c = o := ⟨(Lib.indexByte l c).toNat, by omega⟩
    obtain ⟨h2, h3⟩ := Lib.indexByte_some ho
    have hm : c ∈ l := List.mem_of_getElem? h2
    have hol := (List.getElem?_eq_some_iff.1 h2).1
    have hi : l.idxOf c = o := by
      have h4 : l.idxOf c < l.length := List.idxOf_lt_length_iff.2 hm
      have h5 : l[l.idxOf c]? = some c := by rw [List.getElem?_eq_getElem h4, List.getElem_idxOf]
      rcases Nat.lt_trichotomy (l.idxOf c) o with h | h | h
      · exact absurd h5 (h3 _ h)
      · exact h
      · have e := List.not_of_lt_findIdx (p := (· == c)) (xs := l) (i := o) h
        have : l[o] = c := (List.getElem?_eq_some_iff.1 h2).2
        simp [this] at e
    unfold idxB; rw [if_pos hm, ho, hi]
set_option maxRecDepth 100000 in
set_option maxRecDepth 100000 in
theorem indexByte_any (g off : Nat) (c : Nat) (bs : List UInt8) (x : UInt8) (w : World) (hr : Row w g off (bs.map bv)) :
    Calls Try.prog 165 #[.slice (some ⟨g, off, none⟩) bs.length c, .int .u8 x.toNat] w (IntPost w (idxB bs x)) := by
  have hc : ∀ i, i < bs.length → w.cell? ⟨g, off + i, none⟩ = some (.int .u8 ((bs.map (fun x => (x.toNat : Int))).getD i 0)) := fun i hi => by
    have := hr.get i (bv bs[i]) (by simp [hi])
    rw [this]; simp [bv, List.getD_eq_getElem?_getD, hi]
  have hb : Lib.bytesOf (bs.map (fun x => (x.toNat : Int))) = bs := by
    unfold Lib.bytesOf
    rw [List.map_map]
    conv => rhs; rw [← List.map_id bs]
    apply List.map_congr_left
    intro y _
    simp
  have hx : ((x.toNat : Int).toNat).toUInt8 = x := by simp
  have hrun := Lib.run_indexByteSlice (P := Try.prog) w g off bs.length c (bs.map (fun x => (x.toNat : Int))) (by simp) hc (x.toNat : Int)
  rw [hb, hx, idx_eq] at hrun
  have HR := Lib.hid hrun
  clear hrun hc hb hx
  go_enter Try.func165, Try.ntmps165
  go_wp2
  rw [run_callFunc_extern Try.func166 (by kernel_rfl) (by kernel_rfl) (by kernel_rfl) (e := Extern.BytealgIndexByte.indexByte) (by kernel_rfl), HR.out]
  simp only [Result.andThen]
  rw [Oper.upon_value]
  go_wp2
  go_ret
  exact ⟨rfl, rfl⟩
/-- The machine at g: what is common; from and to, in blocks of F. -/
structure TuAt (g : Nat) (A B : List UInt8) (w : World) (F : Nat → Prop) (s : US) : Prop where
  base : BaseAt w g false s.over
  fa : ∃ a c, w.cell? ⟨g, 3, none⟩ = some (.slice a A.length c) ∧ At w a (A.map bv) ∧ (0 < A.length → ∀ x off, a = some ⟨x, off, none⟩ → F x ∧ x ≠ g)
  fb : ∃ a c, w.cell? ⟨g, 4, none⟩ = some (.slice a B.length c) ∧ At w a (B.map bv) ∧ (0 < B.length → ∀ x off, a = some ⟨x, off, none⟩ → F x ∧ x ≠ g)
  own : F g
  lt : ∀ y, F y → y < w.heap.size
theorem TuAt.fr {g : Nat} {A B : List UInt8} {F : Nat → Prop} {s : US} {S : Nat → Nat → Prop} {w w' : World} (h : TuAt g A B w F s) (k : Fr S w w') (hS : ∀ y o, F y → ¬ S y o) : TuAt g A B w' F s := by
  have hl := h.base.lt
  refine ⟨h.base.fr k (fun o _ => hS g o h.own), ?_, ?_, h.own, fun y hy => Nat.lt_of_lt_of_le (h.lt y hy) k.size⟩
  · obtain ⟨a, c, h3, ha, hF⟩ := h.fa
    exact ⟨a, c, (k.cell g 3 hl (hS g 3 h.own)).trans h3, ha.fr k (fun x off e _ i hi => hS x _ (hF (by simp at hi; omega) x off e).1), hF⟩
  · obtain ⟨a, c, h3, ha, hF⟩ := h.fb
    exact ⟨a, c, (k.cell g 4 hl (hS g 4 h.own)).trans h3, ha.fr k (fun x off e _ i hi => hS x _ (hF (by simp at hi; omega) x off e).1), hF⟩
theorem becomes_no {A B : List UInt8} {x : UInt8} (h : x ∉ A) : becomes A B x = [x] := by unfold becomes; rw [if_neg h]
theorem becomes_at {A B : List UInt8} {x : UInt8} (h : x ∈ A) (j : Nat) (hj : A.idxOf x = j) (hB : j < B.length) : becomes A B x = [B[j]] := by
  subst hj; unfold becomes; rw [if_pos h, dif_pos hB]
theorem becomes_out {A B : List UInt8} {x : UInt8} (h : x ∈ A) (j : Nat) (hj : A.idxOf x = j) (hB : ¬ j < B.length) : becomes A B x = [] := by
  subst hj; unfold becomes; rw [if_pos h, dif_neg hB]
theorem flat_take (f : UInt8 → List UInt8) (c : List UInt8) (k : Nat) (h : k < c.length) : (c.take (k + 1)).flatMap f = (c.take k).flatMap f ++ f c[k] := by
  rw [List.take_succ_eq_append_getElem h, List.flatMap_append]; simp
set_option maxHeartbeats 4000000 in
set_option maxRecDepth 100000 in
theorem tu_feed (g : Nat) (A B : List UInt8) (F : Nat → Prop) (s : US) (w : World) (h : TuAt g A B w F s) (hov : s.over = false) (hA1 : 1 ≤ A.length) (hAl : A.length ≤ 1000) (hBl : B.length ≤ 1000) (a : Option Addr) (c : List UInt8) (cap : Nat) (hat : At w a (c.map bv)) (hF : ∀ x off, a = some ⟨x, off, none⟩ → ¬ F x)
    (h1 : 1 ≤ c.length) (h32 : c.length ≤ 32) :
    Calls Try.prog 162 #[.pointer (some ⟨g, 0, none⟩), .int .i64 0, .slice a c.length cap] w (AnsPost (TuAt g A B) F w (s, outU (becomes A B) c, 0)) := by
  obtain ⟨j0, hj, jz0, jz1, jz2⟩ := info_parts Try.info5
  obtain ⟨fa, ca, h3, hfA, hfAF⟩ := h.fa
  obtain ⟨fb, cb, h4, hfB, hfBF⟩ := h.fb
  obtain ⟨xa, oa, rfl, hra⟩ := hfA (by simp; omega)
  have hb := h.base
  rw [hov] at hb
  have hgl := hb.lt
  have htk := takes_b g false false 0 a c.length cap w hb
  have e0 : takesB false false 0 c.length = 0 := by unfold takesB; rw [if_neg (by simp [endsB]), if_neg (by omega)]
  rw [e0] at htk
  obtain ⟨ga, go, rfl, hrow⟩ := hat (by simp; omega)
  have HTK := Lib.hid htk; have HT := Lib.hid h; have HRA := Lib.hid hra; have HFB := Lib.hid hfB; have HROW := Lib.hid hrow
  clear htk hb h hra hfB hat hrow hfA hfAF e0
  go_enter Try.func162, Try.ntmps162
  go_wp2_with (first
    | (go_at_call 153; refine HTK.out.mono ?_; rintro e1 w1 ⟨rfl, hw1⟩; subst hw1))
  go_loopw [9, 24] (fun v i wr => ∃ k : Nat, k ≤ c.length ∧ i = .int .i64 k ∧ Hid (OwnSl wr 5 1 v ((c.take k).flatMap (becomes A B)).length (((c.take k).flatMap (becomes A B)).map bv)) ∧ Hid (∀ x, v.ownBlock = some x → w.heap.size ≤ x) ∧ Hid (Fr No w wr)) (fun _ i _ => c.length - (intOf i).toNat)
  case atStart => exact ⟨0, Nat.zero_le _, rfl, Lib.hid (by simpa using OwnSl.nil w 5 1), Lib.hid (fun x e => by simp [Value.ownBlock] at e), Lib.hid (Fr.refl _ _)⟩
  case round =>
    obtain ⟨k, hk, rfl, HO, HN, HFr⟩ := hrel
    obtain ⟨va, vc, rfl, hva, _⟩ := HO.out.at
    have hlc : ((c.take k).flatMap (becomes A B)).length ≤ 32 := Nat.le_trans (flat_len A B _) (by simp; omega)
    have g3 : wr.cell? ⟨g, 3, none⟩ = some (.slice (some ⟨xa, oa, none⟩) A.length ca) := (HFr.out.cell g 3 hgl (fun e => e)).trans h3
    have g4 : wr.cell? ⟨g, 4, none⟩ = some (.slice fb B.length cb) := (HFr.out.cell g 4 hgl (fun e => e)).trans h4
    by_cases hlt : k < c.length
    · have hki : (k : Int) < c.length := by omega
      have hcell := (HROW.out.fr HFr.out (fun _ _ e => e)).get k (bv c[k]) (by simp [hlt])
      have hft := flat_take (becomes A B) c k hlt
      generalize c[k] = x at *
      generalize (c.take k).flatMap (becomes A B) = L at *
      have HFT := Lib.hid hft; clear hft
      have hix := indexByte_any xa oa ca A x wr (HRA.out.fr HFr.out (fun _ _ e => e))
      have HVA := Lib.hid hva; clear hva
      by_cases hx : x ∈ A
      · obtain ⟨j, hjx⟩ : ∃ j, A.idxOf x = j := ⟨_, rfl⟩
        have e1 : idxB A x = (j : Int) := by unfold idxB; rw [if_pos hx, hjx]
        rw [e1] at hix
        have HIX := Lib.hid hix; clear hix e1
        have n0 : ¬ (j : Int) < 0 := by omega
        by_cases hjB : j < B.length
        · have hjb : (j : Int) < B.length := by omega
          have eb := becomes_at hx j hjx hjB
          obtain ⟨xb, ob, rfl, hrb⟩ := HFB.out (by simp; omega)
          have hcb := (hrb.fr HFr.out (fun _ _ e => e)).get j (bv B[j]) (by simp [hjB])
          generalize B[j] = y at *
          have HEB := Lib.hid eb; clear eb hx hjx hrb
          go_wp2_with (first
            | (go_at_call 165; refine HIX.out.mono ?_; rintro e1 w1 ⟨rfl, hw1⟩; subst hw1)
            | (at_builtin; refine wpList_append_sl rfl (.tmp 49) (.tmp 57) 22 22 rfl 5 j0 (.int .u8 0) 1 1 Try.underlying22 hj jz0 jz1 jz2 rfl (by decide) (.slice va L.length vc) L.length (L.map bv) rfl (HO.out.fr ((Fr.refl No wr).alloc _) (fun _ _ _ e => e)) _ 1 [bv y] rfl (src_slice Try.underlying22 rfl (fun _ => ⟨wr.heap.size, 0, rfl, row_at wr #[bv y] _ rfl _ rfl 5 (0, 0)⟩) (by simp [Value.oneCell'])) (by omega) (by omega) ?_
               intro v1 w1 hown1 hfr1 hblk1
               have HO1 := Lib.hid hown1; have HF1 := Lib.hid hfr1; have HB1 := Lib.hid hblk1
               clear hown1 hfr1 hblk1))
          go_roundw
          case rel =>
            refine ⟨k + 1, by omega, by go_num, Lib.hid ?_, Lib.hid (fun z e => ?_), Lib.hid ?_⟩
            · rw [HFT.out, HEB.out]; have := HO1.out; simpa using this
            · have := HFr.out.size
              rcases HB1.out with h | h
              · rw [h] at e; exact HN.out z e
              · rw [h] at e; injection e with e; simp at e; omega
            · exact HFr.out.step (((Fr.refl (Blk (.slice va L.length vc)) wr).alloc _).trans HF1.out) (fun z o hz e => by have := HN.out z e; omega)
          case measure => simp [intOf]; omega
        · have hjb : ¬ (j : Int) < B.length := by omega
          have eb := becomes_out hx j hjx hjB
          have HEB := Lib.hid eb; clear eb hx hjx
          go_wp2_with (first
            | (go_at_call 165; refine HIX.out.mono ?_; rintro e1 w1 ⟨rfl, hw1⟩; subst hw1))
          go_roundw
          case rel => exact ⟨k + 1, by omega, by go_num, Lib.hid (by rw [HFT.out, HEB.out, List.append_nil]; exact HO.out), HN, HFr⟩
          case measure => simp [intOf]; omega
      · have e1 : idxB A x = -1 := by unfold idxB; rw [if_neg hx]
        rw [e1] at hix
        have HIX := Lib.hid hix; clear hix e1
        have HEB := Lib.hid (becomes_no (B := B) hx); clear hx
        go_wp2_with (first
          | (go_at_call 165; refine HIX.out.mono ?_; rintro e1 w1 ⟨rfl, hw1⟩; subst hw1)
          | (at_builtin; refine wpList_append_sl rfl (.tmp 37) (.tmp 39) 22 22 rfl 5 j0 (.int .u8 0) 1 1 Try.underlying22 hj jz0 jz1 jz2 rfl (by decide) (.slice va L.length vc) L.length (L.map bv) rfl (HO.out.fr ((Fr.refl No wr).alloc _) (fun _ _ _ e => e)) _ 1 [bv x] rfl (src_slice Try.underlying22 rfl (fun _ => ⟨wr.heap.size, 0, rfl, row_at wr #[bv x] _ rfl _ rfl 5 (0, 0)⟩) (by simp [Value.oneCell'])) (by omega) (by omega) ?_
             intro v1 w1 hown1 hfr1 hblk1
             have HO1 := Lib.hid hown1; have HF1 := Lib.hid hfr1; have HB1 := Lib.hid hblk1
             clear hown1 hfr1 hblk1))
        go_roundw
        case rel =>
          refine ⟨k + 1, by omega, by go_num, Lib.hid ?_, Lib.hid (fun z e => ?_), Lib.hid ?_⟩
          · rw [HFT.out, HEB.out]; have := HO1.out; simpa using this
          · have := HFr.out.size
            rcases HB1.out with h | h
            · rw [h] at e; exact HN.out z e
            · rw [h] at e; injection e with e; simp at e; omega
          · exact HFr.out.step (((Fr.refl (Blk (.slice va L.length vc)) wr).alloc _).trans HF1.out) (fun z o hz e => by have := HN.out z e; omega)
        case measure => simp [intOf]; omega
    · obtain rfl : k = c.length := by omega
      rw [List.take_length] at *
      have HVA := Lib.hid hva; clear hva
      by_cases he : c.flatMap (becomes A B) = []
      · have hu : outU (becomes A B) c = [] := by unfold outU; rw [if_pos he]
        have HU := Lib.hid hu
        have hl0 : (c.flatMap (becomes A B)).length = 0 := by rw [he]; rfl
        rw [hl0]
        clear hu he hl0
        go_wp2
        go_ret2
        rw [HU.out]
        exact ⟨none, [], 0, F, rfl, rfl, ⟨by simp, by simp⟩, ⟨At.nil _ _, (fun x off e => by cases e), (fun p hp => by cases hp)⟩, HT.out.fr HFr.out (fun _ _ _ e => e), HFr.out.mono (fun _ _ _ e => e.elim), fun y hy => .inl hy⟩
      · have hu : outU (becomes A B) c = [c.flatMap (becomes A B)] := by unfold outU; rw [if_neg he]
        have HU := Lib.hid hu
        clear hu
        generalize c.flatMap (becomes A B) = L at *
        have hL0 : 0 < L.length := List.length_pos_iff.2 he
        have hne : ((L.length : Int) == 0) = false := by simp; exact he
        clear he
        go_wp2
        go_ret2
        rw [HU.out]
        refine ⟨some ⟨wr.heap.size, 0, none⟩, [(va, vc, L)], 1, F, rfl, rfl, ⟨by simp; exact List.length_pos_iff.1 hL0, by simp; omega⟩, ⟨fun _ => ⟨wr.heap.size, 0, rfl, row_at wr _ _ rfl _ rfl _ _⟩, (fun x off e => ?_), (fun p hp => ?_)⟩, HT.out.fr (HFr.out.alloc _) (fun _ _ _ e => e), (HFr.out.alloc _).mono (fun _ _ _ e => e.elim), fun y hy => .inl hy⟩
        · injection e with e; injection e with e; have := HFr.out.size; omega
        · simp at hp; subst hp
          exact ⟨at_no HVA.out ((Fr.refl No _).alloc _), fun x off e => HN.out x (by have e' : va = some ⟨x, off, none⟩ := e; rw [e']; rfl)⟩
set_option maxHeartbeats 2000000 in
set_option maxRecDepth 100000 in
theorem tu_end (g : Nat) (A B : List UInt8) (F : Nat → Prop) (s : US) (w : World) (h : TuAt g A B w F s) (hov : s.over = false) :
    Calls Try.prog 161 #[.pointer (some ⟨g, 0, none⟩), .int .i64 0] w (AnsPost (TuAt g A B) F w (⟨true⟩, [], 0)) := by
  have hb := h.base
  rw [hov] at hb
  have hgl := hb.lt
  have hen := ends_b g false false 0 w hb
  have e0 : endsB false false 0 = 0 := rfl
  rw [e0] at hen
  have hst := stop_b g false false w hb
  have HEN := Lib.hid hen; have HST := Lib.hid hst; have HT := Lib.hid h; have HB := Lib.hid hb
  clear hen hst h e0 hb
  go_enter Try.func161, Try.ntmps161
  go_wp2_with (first
    | (go_at_call 150; refine HEN.out.mono ?_; rintro e1 w1 ⟨rfl, hw1⟩; subst hw1)
    | (go_at_call 149; refine HST.out.mono ?_; rintro e2 w2 ⟨rfl, hw2⟩; have HW2 := Lib.hid hw2; clear hw2))
  go_ret2
  have k : Fr (fun y o => y = g ∧ o = 2) w w2 := by rw [HW2.out]; exact (Fr.refl _ _).setCell (fun _ => ⟨rfl, rfl⟩) _
  have b := HB.out
  refine ⟨none, [], 0, F, rfl, rfl, ⟨by simp, by simp⟩, ⟨At.nil _ _, (fun x off e => by cases e), (fun p hp => by cases hp)⟩, ⟨⟨(k.cell g 0 hgl (fun e => by omega)).trans b.c0, (k.cell g 1 hgl (fun e => by omega)).trans b.c1, by rw [HW2.out]; exact World.cell?_setCell_same _ _ _ b.c2, (k.frozen g 1 hgl (fun e => by omega)).trans b.z1, by rw [HW2.out, World.frozen?_setCell]; exact b.z2⟩, ?_, ?_, HT.out.own, fun y hy => Nat.lt_of_lt_of_le (HT.out.lt y hy) k.size⟩, k.mono (fun y o _ e => by have := e.1; subst this; exact HT.out.own), fun y hy => .inl hy⟩
  · obtain ⟨a, c, h3, ha, hF⟩ := HT.out.fa
    exact ⟨a, c, (k.cell g 3 hgl (fun e => by omega)).trans h3, ha.fr k (fun x off e _ i hi e2 => (hF (by simp at hi; omega) x off e).2 e2.1), hF⟩
  · obtain ⟨a, c, h3, ha, hF⟩ := HT.out.fb
    exact ⟨a, c, (k.cell g 4 hgl (fun e => by omega)).trans h3, ha.fr k (fun x off e _ i hi e2 => (hF (by simp at hi; omega) x off e).2 e2.1), hF⟩
end Go.Proofs.Ytcplbhjpefmliaa
