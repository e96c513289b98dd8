/- The document's disk: Create. -/
import Derived.Test.YtljldkknopmfhaaFilV
namespace Go.Proofs.Ytljldkknopmfhaa
open Go.RowKit Go.Maps Go

def RCrPost (w : World) (r : Nat) (S : List (Int × Int)) (x : DS × Int × Int) (tg : Nat → Nat) (sa : Option Addr) (e : Ending) (w' : World) : Prop := e = .returned (.tuple #[.int .i64 x.2.1, .int .i64 x.2.2]) ∧ RLeft w r S x.1 tg sa w'
theorem RLeft.from {w w1 w' : World} {r : Nat} {S : List (Int × Int)} {st' : DS} {tg : Nat → Nat} {sa : Option Addr} (h : RLeft w1 r S st' tg sa w') (f : Fr (Tg tg) w w1) : RLeft w r S st' tg sa w' := by
  obtain ⟨tg', X', h0, h1, h2, h3⟩ := h
  exact ⟨tg', X', h0, h1, f.trans h2, fun b hb => h3 b (Nat.lt_of_lt_of_le hb f.size)⟩
/-- The document's disk has one file more. -/
theorem RRep.made {w : World} {r : Nat} {S : List (Int × Int)} {st : DS} {tg : Nat → Nat} {X : RX} (h : RRep w r S st tg X) (hlen : st.there.length = st.texts.length) (lit : Obj) (w3 w5 : World) (a3 : Option Addr) (q3 : Nat) (a5 : Option Addr) (q5 : Nat)
    (hlit : (w.alloc lit).heap.size = w.heap.size + 1) (ho3 : OwnSl w3 9 1 (.slice a3 (st.texts.length + 1) q3) (st.texts.length + 1) (st.texts.map sv ++ [.string ⟨#[]⟩])) (hf3 : Fr (Blk (.slice X.ta st.texts.length X.tc)) (w.alloc lit) w3)
    (hb3 : (Value.slice a3 (st.texts.length + 1) q3).ownBlock = (Value.slice X.ta st.texts.length X.tc).ownBlock ∨ (Value.slice a3 (st.texts.length + 1) q3).ownBlock = some (w.alloc lit).heap.size)
    (ho5 : OwnSl w5 4 1 (.slice a5 (st.there.length + 1) q5) (st.there.length + 1) (st.there.map bo ++ [.bool true])) (hf5 : Fr (Blk (.slice X.ha st.there.length X.hc)) ((w3.setCell ⟨r, 1, none⟩ (.slice a3 (st.texts.length + 1) q3)).alloc (.cells #[.bool true] 4)) w5)
    (hb5 : (Value.slice a5 (st.there.length + 1) q5).ownBlock = (Value.slice X.ha st.there.length X.hc).ownBlock ∨ (Value.slice a5 (st.there.length + 1) q5).ownBlock = some ((w3.setCell ⟨r, 1, none⟩ (.slice a3 (st.texts.length + 1) q3)).alloc (.cells #[.bool true] 4)).heap.size)
    (hr5 : w5.heap[r]? = some (.cells #[.slice X.sa S.length X.sc, .slice a3 (st.texts.length + 1) q3, .slice X.ha st.there.length X.hc, .int .i64 st.count, .int .i64 st.id] 54 (0, 0))) :
    RLeft w r S ⟨st.texts ++ [[]], st.there ++ [true], st.count, st.id⟩ tg X.sa (w5.setCell ⟨r, 2, none⟩ (.slice a5 (st.there.length + 1) q5)) := by
  have hrw := heap_lt h.disk
  have f4 : Fr (fun b _ => b = r) w3 (w3.setCell ⟨r, 1, none⟩ (.slice a3 (st.texts.length + 1) q3)) := Fr.setCell (S := fun x _ => x = r) (Fr.refl _ _) (fun _ => rfl) _
  have f6 : Fr (fun b _ => b = r) w5 (w5.setCell ⟨r, 2, none⟩ (.slice a5 (st.there.length + 1) q5)) := Fr.setCell (S := fun x _ => x = r) (Fr.refl _ _) (fun _ => rfl) _
  have hs4 : ((w3.setCell ⟨r, 1, none⟩ (.slice a3 (st.texts.length + 1) q3)).alloc (.cells #[.bool true] 4)).heap.size = w3.heap.size + 1 := by simp [World.setCell]
  have hs3 := hf3.size
  have hs5 := hf5.size
  rw [hlit] at hb3 hs3
  rw [hs4] at hb5 hs5
  have hta : ∀ b, (Value.slice X.ta st.texts.length X.tc).ownBlock = some b → tg b = 2 ∧ b < w.heap.size := fun b e => ⟨h.txtTg b e, h.txt.lt b e⟩
  have hha : ∀ b, (Value.slice X.ha st.there.length X.hc).ownBlock = some b → tg b = 3 ∧ b < w.heap.size := fun b e => ⟨h.theTg b e, h.the.lt b e⟩
  have n3 : ∀ b, (Value.slice a3 (st.texts.length + 1) q3).ownBlock = some b → (tg b = 2 ∧ b < w.heap.size) ∨ b = w.heap.size + 1 := fun b e => by
    rcases hb3 with h1 | h1
    · rw [h1] at e; exact .inl (hta b e)
    · rw [h1] at e; injection e with e; exact .inr e.symm
  have n5 : ∀ b, (Value.slice a5 (st.there.length + 1) q5).ownBlock = some b → (tg b = 3 ∧ b < w.heap.size) ∨ b = w3.heap.size + 1 := fun b e => by
    rcases hb5 with h1 | h1
    · rw [h1] at e; exact .inl (hha b e)
    · rw [h1] at e; injection e with e; exact .inr e.symm
  have hr := h.tgr
  let tg' : Nat → Nat := fun b => if (Value.slice a3 (st.texts.length + 1) q3).ownBlock = some b then 2 else if (Value.slice a5 (st.there.length + 1) q5).ownBlock = some b then 3 else tg b
  have low : ∀ b, b < w.heap.size → tg' b = tg b := by
    intro b hb
    show (if (Value.slice a3 (st.texts.length + 1) q3).ownBlock = some b then 2 else if (Value.slice a5 (st.there.length + 1) q5).ownBlock = some b then 3 else tg b) = tg b
    split
    · rename_i e
      rcases n3 b e with h1 | h1
      · exact h1.1.symm
      · omega
    · split
      · rename_i e
        rcases n5 b e with h1 | h1
        · exact h1.1.symm
        · omega
      · rfl
  have fr : Fr (fun b _ => tg b = 1 ∨ tg b = 2 ∨ tg b = 3) w (w5.setCell ⟨r, 2, none⟩ (.slice a5 (st.there.length + 1) q5)) := by
    have g1 : Fr (fun b _ => tg b = 1 ∨ tg b = 2 ∨ tg b = 3) w (w.alloc lit) := (Fr.refl _ _).alloc _
    have g2 := g1.trans (hf3.mono fun b o _ e => .inr (.inl (hta b e).1))
    have g3 := (g2.trans (f4.mono fun b o _ e => .inl (by rw [e]; exact hr))).alloc (.cells #[.bool true] 4)
    exact (g3.trans (hf5.mono fun b o _ e => .inr (.inr (hha b e).1))).trans (f6.mono fun b o _ e => .inl (by rw [e]; exact hr))
  have e1 : (st.texts ++ [[]]).length = st.texts.length + 1 := by simp
  have e2 : (st.there ++ [true]).length = st.there.length + 1 := by simp
  refine ⟨tg', ⟨X.sa, X.sc, a3, q3, a5, q5⟩, rfl, ⟨fun b hb => ?_, ?_, (low r hrw).trans hr, ?_, fun b e => ?_, ?_, fun b e => ?_, h.scrAt.fr fr fun g off e _ i hi e3 => ?_, fun g off e h0 => ?_⟩, fr.mono fun b o _ e => by unfold Tg; omega, low⟩
  · by_cases hbl : b < w.heap.size
    · exact Nat.lt_of_lt_of_le hbl fr.size
    · replace hb : (if (Value.slice a3 (st.texts.length + 1) q3).ownBlock = some b then 2 else if (Value.slice a5 (st.there.length + 1) q5).ownBlock = some b then 3 else tg b) ≠ 0 := hb
      split at hb
      · rename_i e
        have := ho3.lt b e
        have := f6.size
        omega
      · split at hb
        · rename_i e
          exact Nat.lt_of_lt_of_le (ho5.lt b e) f6.size
        · exact absurd (h.lt b hb) hbl
  · dsimp only
    rw [setCell_eq_setRow w5 r 2 _ _ _ _ hr5, e1, e2]
    exact setRow_heap w5 r _ _ _ _ hr5
  · dsimp only
    rw [e1]
    have ho : OwnSl w3 9 1 (.slice a3 (st.texts.length + 1) q3) (st.texts.length + 1) ((st.texts ++ [[]]).map sv) := by rw [List.map_append]; exact ho3
    have nr : ∀ b, (Value.slice a3 (st.texts.length + 1) q3).ownBlock = some b → b ≠ r := fun b e e2 => by
      rcases n3 b e with h1 | h1
      · rw [e2] at h1; omega
      · omega
    refine (((ho.fr f4 fun b o e e2 => nr b e e2).fr ((Fr.refl No _).alloc (.cells #[.bool true] 4)) (fun _ _ _ x => x)).fr hf5 fun b o e e2 => ?_).fr f6 fun b o e e2 => nr b e e2
    have h2 := hha b e2
    rcases n3 b e with h1 | h1 <;> omega
  · dsimp only at e
    rw [ownBlock_len a3 _ _ (st.texts.length + 1) q3] at e
    show (if (Value.slice a3 (st.texts.length + 1) q3).ownBlock = some b then 2 else _) = 2
    rw [if_pos e]
  · dsimp only
    rw [e2]
    have ho : OwnSl w5 4 1 (.slice a5 (st.there.length + 1) q5) (st.there.length + 1) ((st.there ++ [true]).map bo) := by rw [List.map_append]; exact ho5
    refine ho.fr f6 fun b o e e2 => ?_
    rcases n5 b e with h1 | h1
    · rw [e2] at h1; omega
    · omega
  · dsimp only at e
    rw [ownBlock_len a5 _ _ (st.there.length + 1) q5] at e
    show (if (Value.slice a3 (st.texts.length + 1) q3).ownBlock = some b then 2 else if (Value.slice a5 (st.there.length + 1) q5).ownBlock = some b then 3 else tg b) = 3
    rw [if_neg, if_pos e]
    intro e3
    rcases n3 b e3 with h1 | h1 <;> rcases n5 b e with h2 | h2 <;> omega
  · have := h.scrTg g off e (scr_pos hi); omega
  · obtain ⟨g', off', e', hrow⟩ := h.scrAt (by rw [scr_length]; omega)
    dsimp only at e
    rw [e] at e'; injection e' with e'; injection e' with x1 x2; subst x1
    rw [low g (hrow.lt (by rw [scr_length]; omega))]
    exact h.scrTg g off e h0
set_option maxHeartbeats 4000000 in
set_option maxRecDepth 100000 in
theorem rcreate_any (r : Nat) (S : List (Int × Int)) (st : DS) (tg : Nat → Nat) (X : RX) (w : World) (h : RRep w r S st tg X) (hlen : st.there.length = st.texts.length) (h64 : st.texts.length ≤ 64) (hl : S.length ≤ 100000) (hc : st.count ≤ 1000000) :
    Calls Try.prog 63 #[.pointer (some ⟨r, 0, none⟩)] w (RCrPost w r S (createM S st) tg X.sa) := by
  obtain ⟨j0, hj, jz0, jz1, jz2⟩ := info_parts info_str17
  obtain ⟨i0, hi, iz0, iz1, iz2⟩ := info_parts info_bool17
  have H := Lib.hid h
  have HCN := Lib.hid (rcounts_any r S st tg X w h hl hc)
  unfold RCntPost at HCN
  obtain ⟨c0, c1, c2, c3, c4, cF⟩ := cells5 h.disk
  have HLE := Lib.hid hlen
  have hh64 : st.there.length ≤ 64 := by omega
  clear h hlen
  by_cases hm : st.texts.length = 64
  · have e0 : createM S st = (st, 0, 17) := by unfold createM; rw [if_pos hm]
    rw [e0]
    rw [hm] at c1
    clear hm e0 HCN HLE h64
    go_enter Try.func63, Try.ntmps63
    go_wp2
    go_ret2
    exact ⟨rfl, rleft_same H.out (Fr.refl _ _)⟩
  · have hmb : ((st.texts.length : Int) == 64) = false := by simp only [beq_eq_false_iff_ne]; omega
    have hmb2 : (st.texts.length == 64) = false := by simp only [beq_eq_false_iff_ne]; omega
    rcases countsM_cases S st with ⟨h4, h5⟩ | ⟨i, h4, h5⟩
    · have e0 : createM S st = (⟨st.texts ++ [[]], st.there ++ [true], st.count + 1, st.id⟩, ((st.texts.length + 1 : Nat) : Int), 0) := by
        unfold createM; rw [if_neg hm, if_pos (by rw [h5]), h5]; simp
      rw [e0]
      rw [h5] at HCN
      clear h4 h5 e0
      go_enter Try.func63, Try.ntmps63
      go_wp2_with (first
        | (go_at_call 90; refine HCN.out.mono ?_; rintro e2 w2 ⟨rfl, hr2, hf2⟩
           have HR2 := Lib.hid hr2; have HF2 := Lib.hid hf2; clear hf2
           obtain ⟨d0, d1, d2, d3, d4, dF⟩ := cells5 hr2.disk
           have tok1 : True := trivial
           have hrl := heap_lt hr2.disk
           clear hr2)
        | (at_builtin; have _t := tok1
           refine wpList_append_sl rfl (.tmp 20) (.tmp 21) 51 51 rfl 9 j0 (.string ⟨#[]⟩) 1 16 Try.underlying51 hj jz0 jz1 jz2 rfl (by decide) (.slice X.ta st.texts.length X.tc) st.texts.length (st.texts.map sv) rfl (HR2.out.txt.fr ((Fr.refl No _).alloc _) (fun _ _ _ x => x)) _ 1 [.string ⟨#[]⟩] rfl (src_slice Try.underlying51 rfl (fun _ => ⟨w2.heap.size, 0, rfl, row_at w2 _ _ rfl _ rfl 9 (0, 0)⟩) (by simp [Value.oneCell'])) (by omega) (by omega) ?_
           intro v3 w3 hown3 hfr3 hblk3
           obtain ⟨a3, q3, rfl, _, _⟩ := hown3.at
           have HO3 := Lib.hid hown3; have HF3 := Lib.hid hfr3; have HB3 := Lib.hid hblk3
           have hne3 : (Value.slice X.ta st.texts.length X.tc).ownBlock ≠ some r := fun e => by have h1 := HR2.out.txtTg r e; have h2 := HR2.out.tgr; omega
           have hr3 : w3.heap[r]? = _ := (hfr3.block r (by simp; omega) (fun _ e => hne3 e)).trans ((((Fr.refl No w2).alloc _).block r hrl (fun _ x => x)).trans HR2.out.disk)
           obtain ⟨e0, e1, e2, e3, e4, eF⟩ := cells5 hr3
           have hrl3 := heap_lt hr3
           have hh4 : (w3.setCell ⟨r, 1, none⟩ (.slice a3 (st.texts.length + 1) q3)).heap[r]? = some (.cells #[.slice X.sa S.length X.sc, .slice a3 (st.texts.length + 1) q3, .slice X.ha st.there.length X.hc, .int .i64 ((st.count + 1 : Nat) : Int), .int .i64 st.id] 54 (0, 0)) := (by
             rw [setCell_eq_setRow w3 r 1 _ _ _ _ hr3]
             exact setRow_heap w3 r _ _ _ _ hr3)
           have f4 : Fr (fun b _ => b = r) w3 (w3.setCell ⟨r, 1, none⟩ (.slice a3 (st.texts.length + 1) q3)) := Fr.setCell (S := fun x _ => x = r) (Fr.refl _ _) (fun _ => rfl) _
           have fh : Fr (fun b _ => (Value.slice X.ta st.texts.length X.tc).ownBlock = some b ∨ b = r) w2 ((w3.setCell ⟨r, 1, none⟩ (.slice a3 (st.texts.length + 1) q3)).alloc (.cells #[.bool true] 4)) :=
             ((((Fr.refl No w2).alloc (.cells #[.string ⟨#[]⟩] 9)).mono (fun _ _ _ x => x.elim)).trans ((hfr3.mono fun b o _ e => .inl e).trans (f4.mono fun b o _ e => .inr e))).alloc _
           have HFH := Lib.hid fh
           have HOH := Lib.hid (HR2.out.the.fr fh (fun b o hb e => by
             have h1 := HR2.out.theTg b hb
             rcases e with e | e
             · have h2 := HR2.out.txtTg b e; omega
             · rw [e, HR2.out.tgr] at h1; cases h1))
           have HH4 := Lib.hid hh4; have HF4 := Lib.hid f4; have HNR := Lib.hid hne3
           clear tok1 hown3 hfr3 hblk3 hr3 hh4 f4 fh hne3)
        | (at_builtin
           refine wpList_append_sl rfl (.tmp 29) (.tmp 30) 52 52 rfl 4 i0 (.bool false) 1 1 Try.underlying52 hi iz0 iz1 iz2 rfl (by decide) (.slice X.ha st.there.length X.hc) st.there.length (st.there.map bo) rfl HOH.out _ 1 [.bool true] rfl (src_slice Try.underlying52 rfl (fun _ => ⟨w3.heap.size, 0, rfl, row_at _ #[.bool true] _ rfl w3.heap.size (by simp [World.setCell]) 4 (0, 0)⟩) (by simp [Value.oneCell'])) (by omega) (by omega) ?_
           intro v5 w5 hown5 hfr5 hblk5
           obtain ⟨a5, q5, rfl, _, _⟩ := hown5.at
           have hne5 : (Value.slice X.ha st.there.length X.hc).ownBlock ≠ some r := fun e => by have h1 := HR2.out.theTg r e; have h2 := HR2.out.tgr; omega
           have hr5 : w5.heap[r]? = _ := (hfr5.block r (by simp [World.setCell]; omega) (fun _ e => hne5 e)).trans ((((Fr.refl No (w3.setCell ⟨r, 1, none⟩ (.slice a3 (st.texts.length + 1) q3))).alloc _).block r (by simp [World.setCell]; omega) (fun _ x => x)).trans HH4.out)
           obtain ⟨g0, g1, g2, g3, g4, gF⟩ := cells5 hr5
           have HO5 := Lib.hid hown5; have HF5 := Lib.hid hfr5; have HB5 := Lib.hid hblk5; have HR5 := Lib.hid hr5; have HNH := Lib.hid hne5
           clear hown5 hfr5 hblk5 hr5 hne5))
      go_ret2
      refine ⟨rfl, RLeft.from ?_ (HF2.out.mono fun b o _ e => by rw [e]; unfold Tg; rw [HR2.out.tgr]; decide)⟩
      exact HR2.out.made HLE.out _ w3 w5 a3 q3 a5 q5 (by simp) HO3.out HF3.out HB3.out HO5.out HF5.out HB5.out HR5.out
    · have e0 : createM S st = (⟨st.texts, st.there, st.count + 1, i⟩, 0, 25) := by
        unfold createM; rw [if_neg hm, if_neg (by rw [h5]; exact (show ¬ (25 : Int) = 0 from by decide)), h5]
      rw [e0]
      rw [h5] at HCN
      clear h4 h5 e0
      go_enter Try.func63, Try.ntmps63
      go_wp2_with (first
        | (go_at_call 90; refine HCN.out.mono ?_; rintro e2 w2 ⟨rfl, hr2, hf2⟩))
      go_ret2
      exact ⟨rfl, rleft_of_turn hr2 hf2⟩
end Go.Proofs.Ytljldkknopmfhaa
