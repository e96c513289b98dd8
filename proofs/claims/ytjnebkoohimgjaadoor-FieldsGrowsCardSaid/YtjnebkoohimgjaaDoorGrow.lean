/- What HeadGrows and its like want: the document's copy of one stream; whether a text begins another; truths as an argument. -/
import Derived.Test.YtjnebkoohimgjaaDoorStrm
import Derived.Test.YtjnebkoohimgjaaDoorDrvC
import Derived.Test.YtjnebkoohimgjaaDoorLift
import Derived.Deep.Grids
namespace Go.Proofs.YtjnebkoohimgjaaDoor
open Go.ChangeShapes Go.WideShapes Go.ChangeAt Go.RowKit Go.Joins

set_option maxRecDepth 100000 in
theorem begins_any (a t : List UInt8) (w : World) : Calls Tryd.prog 15 #[sv a, sv (a ++ t)] w (fun e w' => e = .returned (.bool true) ∧ w' = w) := by
  have hsl : ∀ W : World, (Instr.slice 9 (.string ⟨(a ++ t).toArray⟩) none (some (.int .i64 a.length)) none).run Tryd.prog W = .ok (.string ⟨a.toArray⟩) W := fun W => by
    have h := run_slice_string_h (P := Tryd.prog) W 9 ⟨(a ++ t).toArray⟩ Tryd.underlying9 .i64 (a.length : Int) (by omega) (by rw [size_mk, List.length_append]; omega)
    refine h.trans ?_
    congr 1
    congr 1
    apply ByteArray.ext
    rw [ByteArray.data_extract]
    simp
  have hle : (a.length : Int) ≤ (a ++ t).length := by simp; omega
  generalize a ++ t = b at *
  go_enter Tryd.func15, Tryd.ntmps15
  go_wp2
  go_ret
  exact ⟨rfl, rfl⟩
/-- A value that reads as truths. -/
def IsBools (w : World) (v : Value) (l : List Bool) : Prop := ∃ a c, v = .slice a l.length c ∧ At w a (l.map Value.bool)
theorem isBools_of_trod {H : Type} {enc : TypeId × Value → H} {w : World} {base : Nat} {held : Bool} {fuel : Nat} {v : Value} {x : DataW H × List MemPlace} (h : DataW.trod enc Tryd.prog w base (fun _ => true) held fuel 27 [v] = some x) : ∃ l, IsBools w v l := by
  rcases Deep.open_bools Tryd.underlying27 Tryd.underlying4 (by kernel_rfl) h with ⟨hcs, _⟩ | ⟨a, l, c, B, hcs, _, hl, hm, _, hcell⟩
  · injection hcs with hcs; subst hcs; exact ⟨[], none, 0, rfl, At.nil _ _⟩
  · injection hcs with hcs; subst hcs
    refine ⟨(List.range l).map B, some a, c, by simp, fun hp => ?_⟩
    have hp' : 0 < l := by simpa using hp
    obtain ⟨b, o, sp⟩ := a
    have h0 := hcell 0 (by omega)
    have hsp : sp = none := by simpa [Addr.add] using World.cell?_spot h0
    subst hsp
    refine ⟨b, o, rfl, fun i hi => ?_⟩
    have hi' : i < l := by simpa using hi
    have h1 := hcell i (by omega)
    rw [add_off] at h1
    rw [h1]
    simp [List.getD_eq_getElem?_getD, hi']
/-- A stream in a slice of its own, its bytes in another one. -/
structure OneS (w : World) (B : Nat) (v : Value) (a : Option Addr) (c : Nat) (b : List UInt8) (ended : Bool) (ec es ei : Int) : Prop where
  own : OwnSl w 37 5 v 1 (strmC a b c ended ec es ei)
  bytes : OwnSl w 5 1 (.slice a b.length c) b.length (b.map bv)
  low : ∀ x, v.ownBlock = some x → B ≤ x
  lowb : ∀ x, (Value.slice a b.length c).ownBlock = some x → B ≤ x
  apart : ∀ x, v.ownBlock = some x → (Value.slice a b.length c).ownBlock ≠ some x
theorem OneS.fr {w w' : World} {B : Nat} {v : Value} {a : Option Addr} {c : Nat} {b : List UInt8} {ended : Bool} {ec es ei : Int} {S : Nat → Nat → Prop} (h : OneS w B v a c b ended ec es ei) (k : Fr S w w') (hS : ∀ y o, B ≤ y → ¬ S y o) : OneS w' B v a c b ended ec es ei :=
  ⟨h.own.fr k (fun y o e => hS y o (h.low y e)), h.bytes.fr k (fun y o e => hS y o (h.lowb y e)), h.low, h.lowb, h.apart⟩
def CopyS (w : World) (b : List UInt8) (ended : Bool) (ec es ei : Int) (e : Ending) (w' : World) : Prop :=
  ∃ v a c, e = .returned v ∧ OneS w' w.heap.size v a c b ended ec es ei ∧ Fr No w w'
theorem Tryd.info37 : (Tryd.prog.info? 37).map (fun i => (i.zero, i.size, i.bytes)) = some (some (.agg #[.slice none 0 0, .bool false, .int .i64 0, .int .i64 0, .int .i64 0]), 5, 56) := by kernel_rfl
set_option maxHeartbeats 4000000 in
set_option maxRecDepth 100000 in
theorem rcopy_one (ig ioff ci : Nat) (sa : Option Addr) (sc : Nat) (b : List UInt8) (ended : Bool) (ec es ei : Int) (w : World) (hrow : Row w ig ioff (strmC sa b sc ended ec es ei)) (hs : At w sa (b.map bv)) (hl : b.length ≤ 100000) :
    Calls Tryd.prog 12 #[.slice (some ⟨ig, ioff, none⟩) 1 ci] w (CopyS w b ended ec es ei) := by
  obtain ⟨j0, hj, jz0, jz1, jz2⟩ := info_parts Tryd.info5
  obtain ⟨i0, hi, hz0, hz1, hz2⟩ := info_parts Tryd.info37
  have HROW := Lib.hid hrow; have HS := Lib.hid hs
  clear hrow hs
  go_enter Tryd.func12, Tryd.ntmps12
  go_wp2
  go_loopw [3, 4] (fun v i wr => (i = .int .i64 0 ∧ v = .slice none 0 0 ∧ Hid (wr = w)) ∨ (i = .int .i64 1 ∧ Hid (Fr No w wr) ∧ ∃ a c, Hid (OneS wr w.heap.size v a c b ended ec es ei))) (fun _ i _ => 1 - (intOf i).toNat)
  case atStart => exact .inl ⟨rfl, rfl, Lib.hid rfl⟩
  case round =>
    rcases hrel with ⟨rfl, rfl, HW⟩ | ⟨rfl, HF, a, c, HO⟩
    · have hw := HW.out
      subst hw
      have c0 := HROW.out.get 0 _ rfl
      have c1 := HROW.out.get 1 _ rfl
      have c2 := HROW.out.get 2 _ rfl
      have c3 := HROW.out.get 3 _ rfl
      have c4 := HROW.out.get 4 _ rfl
      rw [Nat.add_zero] at c0
      have nb : ∀ o, ¬ Blk (.slice (some ⟨wr.heap.size + 1, 0, none⟩) 0 0) wr.heap.size o := fun o h => by
        have h' : some (wr.heap.size + 1) = some wr.heap.size := h
        injection h' with h'; omega
      have NB := Lib.hid nb; clear nb
      go_wp2_with (first
        | (at_builtin; refine wpList_append_sl rfl (.tmp 21) (.tmp 23) 25 25 rfl 37 i0 (.agg #[.slice none 0 0, .bool false, .int .i64 0, .int .i64 0, .int .i64 0]) 5 56 Tryd.underlying25 hi hz0 hz1 hz2 rfl (by decide) (.slice none 0 0) 0 [] rfl (OwnSl.nil _ _ _) _ 1 (strmC a1 b c1' ended ec es ei) rfl (src_slice Tryd.underlying25 rfl (fun _ => ⟨w1.heap.size, 0, rfl, row_at (w1.setCell ⟨wr.heap.size, 0, none⟩ (.slice a1 b.length c1')) _ _ rfl _ (by simp) 37 (0, 0)⟩) (by simp [strmC, Value.oneCell'])) (by omega) (by omega) ?_
           intro v3 w3 hown3 hfr3 hblk3
           have HO3 := Lib.hid hown3; have HF3 := Lib.hid hfr3; have HB3 := Lib.hid hblk3
           clear hown3 hfr3 hblk3)
        | (at_builtin; refine wpList_append_sl rfl (.tmp 16) (.tmp 18) 22 22 rfl 5 j0 (.int .u8 0) 1 1 Tryd.underlying22 hj jz0 jz1 jz2 rfl (by decide) (.slice (some ⟨wr.heap.size + 1, 0, none⟩) 0 0) 0 [] rfl (own_empty_at' _ 5 1 _ (by simp)) _ b.length (b.map bv) rfl (src_slice Tryd.underlying22 (by simp) (at_no HS.out (((Fr.refl No _).alloc _).alloc _)) (by simp [Value.oneCell'])) (by omega) (by omega) ?_
           intro v1 w1 hown1 hfr1 hblk1
           rw [Nat.zero_add, List.nil_append] at hown1
           obtain ⟨a1, c1', hv1, hat1, _⟩ := hown1.at
           subst hv1
           have q := fun o => (hfr1.cell wr.heap.size o (by simp; omega) (NB.out o)).trans ((((Fr.refl No (wr.alloc (.cells #[.slice sa b.length sc, .bool ended, .int .i64 ec, .int .i64 es, .int .i64 ei] 37))).alloc (.cells #[] 5)).cell wr.heap.size o (by simp) (fun x => x)).trans (World.cell?_alloc_new wr #[.slice sa b.length sc, .bool ended, .int .i64 ec, .int .i64 es, .int .i64 ei] 37 (i := o)))
           have q0 : w1.cell? ⟨wr.heap.size, 0, none⟩ = some (.slice sa b.length sc) := q 0
           have q1 : w1.cell? ⟨wr.heap.size, 1, none⟩ = some (.bool ended) := q 1
           have q2 : w1.cell? ⟨wr.heap.size, 2, none⟩ = some (.int .i64 ec) := q 2
           have q3 : w1.cell? ⟨wr.heap.size, 3, none⟩ = some (.int .i64 es) := q 3
           have q4 : w1.cell? ⟨wr.heap.size, 4, none⟩ = some (.int .i64 ei) := q 4
           have y0 : w1.frozen? ⟨wr.heap.size, 0, none⟩ = false := (hfr1.frozen wr.heap.size 0 (by simp; omega) (NB.out 0)).trans ((((Fr.refl No (wr.alloc (.cells #[.slice sa b.length sc, .bool ended, .int .i64 ec, .int .i64 es, .int .i64 ei] 37))).alloc (.cells #[] 5)).frozen wr.heap.size 0 (by simp) (fun x => x)).trans (World.frozen?_alloc_new wr #[.slice sa b.length sc, .bool ended, .int .i64 ec, .int .i64 es, .int .i64 ei] 37 0))
           have fs : Fr (fun y o => y = wr.heap.size ∧ o = 0) w1 (w1.setCell ⟨wr.heap.size, 0, none⟩ (.slice a1 b.length c1')) := (Fr.refl _ _).setCell (fun _ => ⟨rfl, rfl⟩) _
           have hwl : wr.heap.size < w1.heap.size := by have := hfr1.size; simp at this; omega
           have e0 : (w1.setCell ⟨wr.heap.size, 0, none⟩ (.slice a1 b.length c1')).cell? ⟨wr.heap.size, 0, none⟩ = some (.slice a1 b.length c1') := World.cell?_setCell_same _ _ _ q0
           have e1 : (w1.setCell ⟨wr.heap.size, 0, none⟩ (.slice a1 b.length c1')).cell? ⟨wr.heap.size, 1, none⟩ = some (.bool ended) := (fs.cell _ 1 hwl (fun e => by omega)).trans q1
           have e2 : (w1.setCell ⟨wr.heap.size, 0, none⟩ (.slice a1 b.length c1')).cell? ⟨wr.heap.size, 2, none⟩ = some (.int .i64 ec) := (fs.cell _ 2 hwl (fun e => by omega)).trans q2
           have e3 : (w1.setCell ⟨wr.heap.size, 0, none⟩ (.slice a1 b.length c1')).cell? ⟨wr.heap.size, 3, none⟩ = some (.int .i64 es) := (fs.cell _ 3 hwl (fun e => by omega)).trans q3
           have e4 : (w1.setCell ⟨wr.heap.size, 0, none⟩ (.slice a1 b.length c1')).cell? ⟨wr.heap.size, 4, none⟩ = some (.int .i64 ei) := (fs.cell _ 4 hwl (fun e => by omega)).trans q4
           have HO1 := Lib.hid hown1; have HF1 := Lib.hid hfr1; have HB1 := Lib.hid hblk1; have HFS := Lib.hid fs
           clear hown1 hfr1 hblk1 hat1 q fs))
      go_roundw
      case rel =>
        have s1 := HF1.out.size
        simp at s1
        have hb1 : ∀ x, (Value.slice a1 b.length c1').ownBlock = some x → wr.heap.size < x ∧ x ≠ wr.heap.size := fun x e => by
          rcases HB1.out with h | h
          · rw [h] at e; have e' : some (wr.heap.size + 1) = some x := e; injection e' with e'; omega
          · rw [h] at e; injection e with e; simp at e; omega
        have hlt1 := HO1.out.lt
        have hb3 : ∀ x, v3.ownBlock = some x → w1.heap.size < x := fun x e => by
          rcases HB3.out with h | h
          · rw [h] at e; simp [Value.ownBlock] at e
          · rw [h] at e; injection e with e; simp at e; omega
        have f1 : Fr No wr w1 := ((((Fr.refl No wr).alloc _).alloc _).step HF1.out (fun x o hx h => by have h' : some (wr.heap.size + 1) = some x := h; injection h' with h'; omega))
        have f2 : Fr No wr (w1.setCell ⟨wr.heap.size, 0, none⟩ (.slice a1 b.length c1')) := f1.step HFS.out (fun x o hx h => by have := h.1; omega)
        have f3 : Fr No wr w3 := (f2.alloc _).step HF3.out (fun x o hx h => by simp [Blk, Value.ownBlock] at h)
        refine .inr ⟨by go_num, Lib.hid f3, a1, c1', Lib.hid ⟨by simpa using HO3.out, ?_, fun x e => by have := hb3 x e; omega, fun x e => by have := hb1 x e; omega, fun x e e2 => by have h1 := hb3 x e; have h2 := hlt1 x e2; omega⟩⟩
        have g1 := HO1.out.fr HFS.out (fun x o e h => (hb1 x e).2 h.1)
        exact (g1.fr ((Fr.refl No _).alloc _) (fun _ _ _ e => e)).fr HF3.out (fun x o _ h => by simp [Blk, Value.ownBlock] at h)
      case measure => simp [intOf]
    · go_wp2
      go_ret
      exact ⟨_, a, c, rfl, HO.out, HF.out⟩
/-- A stream that lies in a row of its own. -/
structure LongAt (w : World) (B g off : Nat) (a : Option Addr) (c : Nat) (b : List UInt8) (ended : Bool) (ec es ei : Int) : Prop where
  row : Row w g off (strmC a b c ended ec es ei)
  fz : ∀ o, w.frozen? ⟨g, o, none⟩ = false
  own : OwnSl w 5 1 (.slice a b.length c) b.length (b.map bv)
  low : B ≤ g
  lowb : ∀ x, (Value.slice a b.length c).ownBlock = some x → B ≤ x ∧ x ≠ g
theorem OneS.long {w : World} {B : Nat} {v : Value} {a : Option Addr} {c : Nat} {b : List UInt8} {ended : Bool} {ec es ei : Int} (h : OneS w B v a c b ended ec es ei) : ∃ g off cl, v = .slice (some ⟨g, off, none⟩) 1 cl ∧ LongAt w B g off a c b ended ec es ei := by
  rcases h.own.2 with ⟨_, h0⟩ | ⟨g, off, cl, cur, rfl, hg, h1, h2, h3, hr⟩
  · cases h0
  · refine ⟨g, off, cl, rfl, hr, fun o => by simp [World.frozen?, hg], h.bytes, h.low g rfl, fun x e => ⟨h.lowb x e, fun e2 => ?_⟩⟩
    subst e2
    exact h.apart x rfl e
theorem LongAt.fr {w w' : World} {B g off : Nat} {a : Option Addr} {c : Nat} {b : List UInt8} {ended : Bool} {ec es ei : Int} {S : Nat → Nat → Prop} (h : LongAt w B g off a c b ended ec es ei) (k : Fr S w w') (hS : ∀ y o, B ≤ y → ¬ S y o) : LongAt w' B g off a c b ended ec es ei :=
  ⟨h.row.fr k (fun i _ => hS g _ h.low), fun o => (k.frozen g o (h.row.lt (by simp [strmC])) (hS g o h.low)).trans (h.fz o), h.own.fr k (fun y o e => hS y o (h.lowb y e).1), h.low, h.lowb⟩
theorem row5 {w : World} {g off : Nat} {v0 v1 v2 v3 v4 : Value} (h0 : w.cell? ⟨g, off + 0, none⟩ = some v0) (h1 : w.cell? ⟨g, off + 1, none⟩ = some v1) (h2 : w.cell? ⟨g, off + 2, none⟩ = some v2) (h3 : w.cell? ⟨g, off + 3, none⟩ = some v3) (h4 : w.cell? ⟨g, off + 4, none⟩ = some v4) :
    Row w g off [v0, v1, v2, v3, v4] := fun i hi => by
  have hi' : i < 5 := by simpa using hi
  rcases (by omega : i = 0 ∨ i = 1 ∨ i = 2 ∨ i = 3 ∨ i = 4) with rfl | rfl | rfl | rfl | rfl
  · exact h0
  · exact h1
  · exact h2
  · exact h3
  · exact h4
theorem LongAt.end_ {w : World} {B g off : Nat} {a : Option Addr} {c : Nat} {b : List UInt8} {ended : Bool} {ec es ei : Int} (h : LongAt w B g off a c b ended ec es ei) (e' : Bool) : LongAt (w.setCell ⟨g, off + 1, none⟩ (.bool e')) B g off a c b e' ec es ei := by
  have hl := h.row.lt (by simp [strmC])
  have k : Fr (fun y o => y = g ∧ o = off + 1) w (w.setCell ⟨g, off + 1, none⟩ (.bool e')) := (Fr.refl _ _).setCell (fun _ => ⟨rfl, rfl⟩) _
  refine ⟨row5 ((k.cell g _ hl (fun e => by omega)).trans (h.row.get 0 _ rfl)) (World.cell?_setCell_same _ _ _ (h.row.get 1 _ rfl)) ((k.cell g _ hl (fun e => by omega)).trans (h.row.get 2 _ rfl)) ((k.cell g _ hl (fun e => by omega)).trans (h.row.get 3 _ rfl)) ((k.cell g _ hl (fun e => by omega)).trans (h.row.get 4 _ rfl)),
    fun o => by rw [World.frozen?_setCell]; exact h.fz o, h.own.fr k (fun y o e e2 => (h.lowb y e).2 e2.1), h.low, h.lowb⟩
theorem LongAt.more {w : World} {B g off : Nat} {a : Option Addr} {c : Nat} {b : List UInt8} {ended : Bool} {ec es ei : Int} (hr : Row w g off (strmC a b c ended ec es ei)) (hz : ∀ o, w.frozen? ⟨g, o, none⟩ = false) (hB : B ≤ g) {a' : Option Addr} {c' : Nat} {b' : List UInt8} (ho : OwnSl w 5 1 (.slice a' b'.length c') b'.length (b'.map bv)) (hb : ∀ x, (Value.slice a' b'.length c').ownBlock = some x → B ≤ x ∧ x ≠ g) :
    LongAt (w.setCell ⟨g, off, none⟩ (.slice a' b'.length c')) B g off a' c' b' ended ec es ei := by
  have hl := hr.lt (by simp [strmC])
  have k : Fr (fun y o => y = g ∧ o = off) w (w.setCell ⟨g, off, none⟩ (.slice a' b'.length c')) := (Fr.refl _ _).setCell (fun _ => ⟨rfl, rfl⟩) _
  refine ⟨row5 (World.cell?_setCell_same _ _ _ (hr.get 0 _ rfl)) ((k.cell g _ hl (fun e => by omega)).trans (hr.get 1 _ rfl)) ((k.cell g _ hl (fun e => by omega)).trans (hr.get 2 _ rfl)) ((k.cell g _ hl (fun e => by omega)).trans (hr.get 3 _ rfl)) ((k.cell g _ hl (fun e => by omega)).trans (hr.get 4 _ rfl)),
    fun o => by rw [World.frozen?_setCell]; exact hz o, ho.fr k (fun y o e e2 => (hb y e).2 e2.1), hB, hb⟩
theorem LongAt.keep {w w' : World} {B g off : Nat} {a : Option Addr} {c : Nat} {b : List UInt8} {ended : Bool} {ec es ei : Int} {S : Nat → Nat → Prop} (h : LongAt w B g off a c b ended ec es ei) (k : Fr S w w') (hS : ∀ y o, S y o → w.heap.size ≤ y) : LongAt w' B g off a c b ended ec es ei := by
  have hl := h.row.lt (by simp [strmC])
  exact ⟨h.row.fr k (fun i _ e => by have := hS g _ e; omega), fun o => (k.frozen g o hl (fun e => by have := hS g _ e; omega)).trans (h.fz o), h.own.fr k (fun y o e e2 => by have h1 := h.own.lt y e; have h2 := hS y o e2; omega), h.low, h.lowb⟩
/-- One stream has grown to another. -/
def Grown (b : List UInt8) (ended : Bool) (b' : List UInt8) (e' : Bool) : Prop := (b' = b ∧ e' = ended) ∨ (ended = false ∧ ∃ t, b' = b ++ t)
/-- The bytes at the slice. -/
theorem LongAt.bytes {w : World} {B g off : Nat} {a : Option Addr} {c : Nat} {b : List UInt8} {ended : Bool} {ec es ei : Int} (h : LongAt w B g off a c b ended ec es ei) : At w a (b.map bv) ∧ b.length ≤ c ∧ ∀ x o, a = some ⟨x, o, none⟩ → B ≤ x ∧ x < w.heap.size := by
  obtain ⟨a', c', e, hat, hle⟩ := h.own.at
  injection e with e1 e2 e3
  subst e1; subst e3
  exact ⟨hat, hle, fun x o e => ⟨(h.lowb x (by rw [e]; rfl)).1, h.own.lt x (by rw [e]; rfl)⟩⟩
end Go.Proofs.YtjnebkoohimgjaaDoor
