/- GraphPorts: the memory behind both copies (W6), and while the program's copy is written over (HM). -/
import Derived.Test.YtljldkknopmfhaaGrX
import Derived.Test.YtljldkknopmfhaaGrN
import Derived.Test.YtljldkknopmfhaaGrQ
namespace Go.Proofs.Ytljldkknopmfhaa
open Go.RowKit

theorem sml_g {x y : Gv} (h : Sml x) (e : y.g = x.g) : Sml y ∧ y.sp.length = x.sp.length ∧ y.du = x.du := by
  have e1 : y.sp.map Sp.s = x.sp.map Sp.s := congrArg Gr.st e
  have e2 : y.du = x.du := congrArg Gr.du e
  have e3 : y.sp.length = x.sp.length := by have := congrArg List.length e1; simpa using this
  refine ⟨⟨by rw [e3]; exact h.s, by rw [e2]; exact h.d, fun p hp => ?_⟩, e3, e2⟩
  have : p.s ∈ x.sp.map Sp.s := by rw [← e1]; exact List.mem_map.2 ⟨p, hp, rfl⟩
  obtain ⟨q, hq, hs⟩ := List.mem_map.1 this
  rw [← hs]
  exact h.b q hq
theorem row_few {x : Gv} {w : World} (hx : x.Ok w) (s : Int) : (x.g.insL s).length ≤ 100 ∧ (x.g.outsL s).length ≤ 100 := by
  unfold Gr.insL Gr.outsL
  split
  · rename_i h
    have hs : s.toNat < x.g.st.length := by omega
    have hs' : s.toNat < x.sp.length := by rwa [x.st_len] at hs
    have hf := stg_few (x.sp[s.toNat]).s (hx.sp _ (List.getElem_mem hs')).most
    rw [insOf_eq hs, outsOf_eq hs, x.s_at hs']
    simp only [List.length_map, List.length_range]
    omega
  · simp
/-- A graph whose rows lie below lo. -/
def Gv.Below (lo : Nat) (y : Gv) : Prop := (0 < y.sp.length → ∀ g off, y.sa = some ⟨g, off, none⟩ → g < lo) ∧ (0 < y.du.length → ∀ g off, y.da = some ⟨g, off, none⟩ → g < lo) ∧
  ∀ p ∈ y.sp, (0 < p.s.A.length → ∀ g off, p.aA = some ⟨g, off, none⟩ → g < lo) ∧ (0 < p.s.B.length → ∀ g off, p.aB = some ⟨g, off, none⟩ → g < lo)
theorem Gv.Ok.below {W : World} {y : Gv} (h : y.Ok W) : y.Below W.heap.size :=
  ⟨fun h0 g off e => at_lt h.st (by rw [flat_length sp_len]; omega) e, fun h0 g off e => at_lt h.du (by rw [flat_length dc_len]; omega) e, fun p hp => ⟨fun h0 g off e => at_lt (h.sp p hp).1 (by simpa using h0) e, fun h0 g off e => at_lt (h.sp p hp).2.1 (by simpa using h0) e⟩⟩
theorem Gv.Below.le {lo hi : Nat} {y : Gv} (h : y.Below lo) (k : lo ≤ hi) : y.Below hi :=
  ⟨fun h0 g off e => Nat.lt_of_lt_of_le (h.1 h0 g off e) k, fun h0 g off e => Nat.lt_of_lt_of_le (h.2.1 h0 g off e) k, fun p hp => ⟨fun h0 g off e => Nat.lt_of_lt_of_le ((h.2.2 p hp).1 h0 g off e) k, fun h0 g off e => Nat.lt_of_lt_of_le ((h.2.2 p hp).2 h0 g off e) k⟩⟩
theorem Gv.Ok.far {W W' : World} {y : Gv} {lo : Nat} (h : y.Ok W) (hb : y.Below lo) (f : Fr (fun b _ => lo ≤ b) W W') : y.Ok W' :=
  ⟨h.st.fr f (fun g off e _ i hp e2 => by have := hb.1 (by rw [flat_length sp_len] at hp; omega) g off e; omega), h.du.fr f (fun g off e _ i hp e2 => by have := hb.2.1 (by rw [flat_length dc_len] at hp; omega) g off e; omega),
    fun p hp => ⟨(h.sp p hp).1.fr f (fun g off e _ i h0 e2 => by have := (hb.2.2 p hp).1 (by simp at h0; omega) g off e; omega), (h.sp p hp).2.1.fr f (fun g off e _ i h0 e2 => by have := (hb.2.2 p hp).2 (by simp at h0; omega) g off e; omega), (h.sp p hp).2.2⟩, h.dc⟩
/-- An empty graph's box. -/
def ZB (W : World) (b : Nat) : Prop := W.heap[b]? = some (.cells #[.slice none 0 0, .slice none 0 0] 63 (0, 0))
theorem ZB.cells {W : World} {b : Nat} (h : ZB W b) : W.cell? ⟨b, 0, none⟩ = some (.slice none 0 0) ∧ W.cell? ⟨b, 1, none⟩ = some (.slice none 0 0) ∧ W.frozen? ⟨b, 0, none⟩ = false ∧ W.frozen? ⟨b, 1, none⟩ = false :=
  ⟨cell_block h 0, cell_block h 1, frozen_block h 0, frozen_block h 1⟩
theorem ZB.fr {W W' : World} {b : Nat} (h : ZB W b) (f : Fr No W W') : ZB W' b := (f.block b (heap_lt h) (fun _ y => y)).trans h
theorem zb_new (W : World) {n : Nat} (hn : n = W.heap.size) : ZB (W.alloc (.cells #[.slice none 0 0, .slice none 0 0] 63)) n := by subst hn; exact heap_alloc_new W _
theorem s_set {w W : World} {v0 v1 : Value} {b k : Nat} {v : Value} (hb : w.heap.size < b) (h : W.cell? ⟨w.heap.size, 0, none⟩ = some v0 ∧ W.cell? ⟨w.heap.size, 1, none⟩ = some v1) :
    (W.setCell ⟨b, k, none⟩ v).cell? ⟨w.heap.size, 0, none⟩ = some v0 ∧ (W.setCell ⟨b, k, none⟩ v).cell? ⟨w.heap.size, 1, none⟩ = some v1 := by
  have f := frSet W b k v
  have h1 := World.block_lt_of_cell? W _ h.1
  exact ⟨(f.cell _ 0 h1 (fun e => by have h2 : w.heap.size = b := e.1; omega)).trans h.1, (f.cell _ 1 h1 (fun e => by have h2 : w.heap.size = b := e.1; omega)).trans h.2⟩
/-- The memory behind both copies. -/
structure W6 (w : World) (x : Gv) (b7 b8 lo : Nat) (yw yh : Gv) (W : World) : Prop where
  gb : W.heap[w.heap.size]? = some (.cells #[.slice x.sa x.sp.length x.sc, .slice x.da x.du.length x.dc] 63 (0, 0))
  h7 : W.heap[b7]? = some (.cells #[.slice yw.sa yw.sp.length yw.sc, .slice yw.da yw.du.length yw.dc] 63 (0, 0))
  h8 : W.heap[b8]? = some (.cells #[.slice yh.sa yh.sp.length yh.sc, .slice yh.da yh.du.length yh.dc] 63 (0, 0))
  gw : yw.g = x.g
  gh : yh.g = x.g
  okw : yw.Ok W
  okh : yh.Ok W
  low : yw.Below lo
  mine : Mine lo W yh
  fr : Fr No w W
  lo : w.heap.size < lo
/-- What stays as it is while the two boxes are written. -/
structure Q6 (w : World) (x yw yh : Gv) (lo : Nat) (W : World) : Prop where
  gb : W.heap[w.heap.size]? = some (.cells #[.slice x.sa x.sp.length x.sc, .slice x.da x.du.length x.dc] 63 (0, 0))
  gw : yw.g = x.g
  gh : yh.g = x.g
  okw : yw.Ok W
  r2w : Rows2 W yw
  okh : yh.Ok W
  low : yw.Below lo
  mine : Mine lo W yh
  fr : Fr No w W
  lo : w.heap.size < lo
theorem Rows2.fr {W W' : World} {y : Gv} (h : Rows2 W y) (f : Fr No W W') : Rows2 W' y := ⟨h.1.fr f (fun _ _ _ z => z), h.2.fr f (fun _ _ _ z => z)⟩
theorem Mine.fr {lo : Nat} {W W' : World} {y : Gv} (h : Mine lo W y) (f : Fr No W W') : Mine lo W' y :=
  ⟨h.st.fr f (fun _ _ _ z => z), h.du.fr f (fun _ _ _ z => z), h.ns, h.nd, fun p hp => ⟨(h.a p hp).1.fr f (fun _ _ _ z => z), (h.a p hp).2⟩⟩
theorem Q6.keep {w W W' : World} {x yw yh : Gv} {lo : Nat} (h : Q6 w x yw yh lo W) (f : Fr No W W') : Q6 w x yw yh lo W' :=
  ⟨(f.block _ (heap_lt h.gb) (fun _ z => z)).trans h.gb, h.gw, h.gh, h.okw.fr f, h.r2w.fr f, h.okh.fr f, h.low, h.mine.fr f, h.fr.trans f, h.lo⟩
theorem own_box {W : World} {b k : Nat} {cs : Array Value} {e : TypeId} {size n : Nat} {u v : Value} {xs : List Value} (h : W.heap[b]? = some (.cells cs 63 (0, 0))) (he : e ≠ 63) (ho : OwnSl W e size u n xs) : OwnSl (W.setCell ⟨b, k, none⟩ v) e size u n xs :=
  ho.fr (frSet W b k v) (fun q o e e2 => own_ne ho he h (by rw [e, e2.1]))
theorem Q6.set {w W : World} {x yw yh : Gv} {lo b k : Nat} {cs : Array Value} {a : Option Addr} {n c : Nat} (h : Q6 w x yw yh lo W) (hb : w.heap.size < b) (hh : W.heap[b]? = some (.cells cs 63 (0, 0))) (hc : W.cell? ⟨b, k, none⟩ = some (.slice a n c)) (v : Value) : Q6 w x yw yh lo (W.setCell ⟨b, k, none⟩ v) := by
  have f := frSet W b k v
  have w1 : Rows2 (W.setCell ⟨b, k, none⟩ v) yw := ⟨own_box hh (by decide) h.r2w.1, own_box hh (by decide) h.r2w.2⟩
  have m1 := own_box (k := k) (v := v) hh (by decide) h.mine.st
  have m2 := own_box (k := k) (v := v) hh (by decide) h.mine.du
  exact ⟨(f.block _ (heap_lt h.gb) (fun o e => by have e1 : w.heap.size = b := e.1; omega)).trans h.gb, h.gw, h.gh, ⟨own_at w1.1, own_at w1.2, fun p hp => (h.okw.sp p hp).boxed hc v, h.okw.dc⟩, w1, ⟨own_at m1, own_at m2, fun p hp => (h.okh.sp p hp).boxed hc v, h.okh.dc⟩, h.low,
    ⟨m1, m2, h.mine.ns, h.mine.nd, fun p hp => ⟨own_box hh (by decide) (h.mine.a p hp).1, (h.mine.a p hp).2⟩⟩, h.fr.step f (fun q o _ e => by have e1 : q = b := e.1; omega), h.lo⟩
theorem put0 {W : World} {b : Nat} {c0 c1 v : Value} (h : W.heap[b]? = some (.cells #[c0, c1] 63 (0, 0))) : (W.setCell ⟨b, 0, none⟩ v).heap[b]? = some (.cells #[v, c1] 63 (0, 0)) := by
  rw [setCell_eq_setRow W _ 0 _ _ (0, 0) _ h, setRow_heap W _ _ _ _ _ h]; rfl
theorem put1 {W : World} {b : Nat} {c0 c1 v : Value} (h : W.heap[b]? = some (.cells #[c0, c1] 63 (0, 0))) : (W.setCell ⟨b, 1, none⟩ v).heap[b]? = some (.cells #[c0, v] 63 (0, 0)) := by
  rw [setCell_eq_setRow W _ 1 _ _ (0, 0) _ h, setRow_heap W _ _ _ _ _ h]; rfl
theorem heap_ne {W : World} {b b' k : Nat} {o : Obj} (h : W.heap[b]? = some o) (hn : b ≠ b') (v : Value) : (W.setCell ⟨b', k, none⟩ v).heap[b]? = some o :=
  ((frSet W b' k v).block b (heap_lt h) (fun q e => hn e.1)).trans h
theorem Q6.box {w W : World} {x yw yh : Gv} {lo b : Nat} (h : Q6 w x yw yh lo W) (hb : w.heap.size < b) (hz : ZB W b) (v0 v1 : Value) : Q6 w x yw yh lo ((W.setCell ⟨b, 0, none⟩ v0).setCell ⟨b, 1, none⟩ v1) ∧ ((W.setCell ⟨b, 0, none⟩ v0).setCell ⟨b, 1, none⟩ v1).heap[b]? = some (.cells #[v0, v1] 63 (0, 0)) := by
  have h1 := put0 (v := v0) hz
  exact ⟨(h.set hb hz (cell_block hz 0) v0).set hb h1 (cell_block h1 1) v1, put1 h1⟩
theorem fin2 {w W : World} {x yw yh : Gv} {lo b7 b8 : Nat} (h : Q6 w x yw yh lo W) (h7 : ZB W b7) (h8 : ZB W b8) (l7 : w.heap.size < b7) (l8 : w.heap.size < b8) (hne : b7 ≠ b8) :
    W6 w x b7 b8 lo yw yh ((((W.setCell ⟨b7, 0, none⟩ (.slice yw.sa yw.sp.length yw.sc)).setCell ⟨b7, 1, none⟩ (.slice yw.da yw.du.length yw.dc)).setCell ⟨b8, 0, none⟩ (.slice yh.sa yh.sp.length yh.sc)).setCell ⟨b8, 1, none⟩ (.slice yh.da yh.du.length yh.dc)) := by
  obtain ⟨q1, k1⟩ := h.box l7 h7 (.slice yw.sa yw.sp.length yw.sc) (.slice yw.da yw.du.length yw.dc)
  have z8 : ZB ((W.setCell ⟨b7, 0, none⟩ (.slice yw.sa yw.sp.length yw.sc)).setCell ⟨b7, 1, none⟩ (.slice yw.da yw.du.length yw.dc)) b8 := heap_ne (heap_ne h8 (fun e => hne e.symm) _) (fun e => hne e.symm) _
  obtain ⟨q2, k2⟩ := q1.box l8 z8 (.slice yh.sa yh.sp.length yh.sc) (.slice yh.da yh.du.length yh.dc)
  exact ⟨q2.gb, heap_ne (heap_ne k1 hne _) hne _, k2, q2.gw, q2.gh, q2.okw, q2.okh, q2.low, q2.mine, q2.fr, q2.lo⟩
theorem fin3 {w W : World} {x yw yh : Gv} {lo b8 : Nat} (h : Q6 w x yw yh lo W) (h8 : ZB W b8) (l8 : w.heap.size < b8) :
    W6 w x W.heap.size b8 lo yw yh (((W.alloc (.cells #[.slice yw.sa yw.sp.length yw.sc, .slice yw.da yw.du.length yw.dc] 63)).setCell ⟨b8, 0, none⟩ (.slice yh.sa yh.sp.length yh.sc)).setCell ⟨b8, 1, none⟩ (.slice yh.da yh.du.length yh.dc)) := by
  have f := (Fr.refl No W).alloc (.cells #[.slice yw.sa yw.sp.length yw.sc, .slice yw.da yw.du.length yw.dc] 63)
  have k1 := heap_alloc_new W (.cells #[.slice yw.sa yw.sp.length yw.sc, .slice yw.da yw.du.length yw.dc] 63)
  have hne : W.heap.size ≠ b8 := by have := heap_lt h8; omega
  obtain ⟨q2, k2⟩ := (h.keep f).box l8 (h8.fr f) (.slice yh.sa yh.sp.length yh.sc) (.slice yh.da yh.du.length yh.dc)
  exact ⟨q2.gb, heap_ne (heap_ne k1 hne _) hne _, k2, q2.gw, q2.gh, q2.okw, q2.okh, q2.low, q2.mine, q2.fr, q2.lo⟩
theorem fin1 {w W : World} {x yw yh : Gv} {lo : Nat} (h : Q6 w x yw yh lo W) :
    W6 w x W.heap.size (W.heap.size + 1) lo yw yh ((W.alloc (.cells #[.slice yw.sa yw.sp.length yw.sc, .slice yw.da yw.du.length yw.dc] 63)).alloc (.cells #[.slice yh.sa yh.sp.length yh.sc, .slice yh.da yh.du.length yh.dc] 63)) := by
  have q2 := h.keep (((Fr.refl No W).alloc (.cells #[.slice yw.sa yw.sp.length yw.sc, .slice yw.da yw.du.length yw.dc] 63)).alloc (.cells #[.slice yh.sa yh.sp.length yh.sc, .slice yh.da yh.du.length yh.dc] 63))
  have k2 := heap_alloc_new (W.alloc (.cells #[.slice yw.sa yw.sp.length yw.sc, .slice yw.da yw.du.length yw.dc] 63)) (.cells #[.slice yh.sa yh.sp.length yh.sc, .slice yh.da yh.du.length yh.dc] 63)
  rw [show (W.alloc (.cells #[.slice yw.sa yw.sp.length yw.sc, .slice yw.da yw.du.length yw.dc] 63)).heap.size = W.heap.size + 1 from by simp] at k2
  exact ⟨q2.gb, box_block ((Fr.refl No _).alloc _), k2, q2.gw, q2.gh, q2.okw, q2.okh, q2.low, q2.mine, q2.fr, q2.lo⟩
theorem fin1b {w W : World} {x yw yh : Gv} {lo : Nat} (h : Q6 w x yw yh lo W) :
    W6 w x (W.heap.size + 1) W.heap.size lo yw yh ((W.alloc (.cells #[.slice yh.sa yh.sp.length yh.sc, .slice yh.da yh.du.length yh.dc] 63)).alloc (.cells #[.slice yw.sa yw.sp.length yw.sc, .slice yw.da yw.du.length yw.dc] 63)) := by
  have q2 := h.keep (((Fr.refl No W).alloc (.cells #[.slice yh.sa yh.sp.length yh.sc, .slice yh.da yh.du.length yh.dc] 63)).alloc (.cells #[.slice yw.sa yw.sp.length yw.sc, .slice yw.da yw.du.length yw.dc] 63))
  have k2 := heap_alloc_new (W.alloc (.cells #[.slice yh.sa yh.sp.length yh.sc, .slice yh.da yh.du.length yh.dc] 63)) (.cells #[.slice yw.sa yw.sp.length yw.sc, .slice yw.da yw.du.length yw.dc] 63)
  rw [show (W.alloc (.cells #[.slice yh.sa yh.sp.length yh.sc, .slice yh.da yh.du.length yh.dc] 63)).heap.size = W.heap.size + 1 from by simp] at k2
  exact ⟨q2.gb, k2, box_block ((Fr.refl No _).alloc _), q2.gw, q2.gh, q2.okw, q2.okh, q2.low, q2.mine, q2.fr, q2.lo⟩
theorem cell_there {W : World} {b k b' k' : Nat} {u v : Value} (h : W.cell? ⟨b, k, none⟩ = some u) : ∃ u', (W.setCell ⟨b', k', none⟩ v).cell? ⟨b, k, none⟩ = some u' := by
  by_cases e : b' = b ∧ k' = k
  · obtain ⟨rfl, rfl⟩ := e
    exact ⟨v, World.cell?_setCell_same _ _ _ h⟩
  · exact ⟨u, ((frSet W b' k' v).cell b k (World.block_lt_of_cell? W _ h) (fun e2 => e ⟨e2.1.symm, e2.2.symm⟩)).trans h⟩
theorem cell_else {W : World} {b k b' k' : Nat} {u v : Value} (h : W.cell? ⟨b, k, none⟩ = some u) (hn : ¬ (b = b' ∧ k = k')) : (W.setCell ⟨b', k', none⟩ v).cell? ⟨b, k, none⟩ = some u :=
  ((frSet W b' k' v).cell b k (World.block_lt_of_cell? W _ h) hn).trans h
def Ty (W : World) (b : Nat) (e : TypeId) : Prop := ∃ cs, W.heap[b]? = some (.cells cs e (0, 0))
theorem Ty.set {W : World} {b b' k' : Nat} {e : TypeId} (h : Ty W b e) (v : Value) : Ty (W.setCell ⟨b', k', none⟩ v) b e := by
  obtain ⟨cs, h⟩ := h
  by_cases hb : b = b'
  · subst hb
    exact ⟨_, by rw [setCell_eq_setRow W _ k' _ _ (0, 0) _ h, setRow_heap W _ _ _ _ _ h]⟩
  · exact ⟨cs, heap_ne h hb v⟩
theorem Ty.frozen {W : World} {b : Nat} {e : TypeId} (h : Ty W b e) (k : Nat) : W.frozen? ⟨b, k, none⟩ = false := by
  obtain ⟨cs, h⟩ := h
  exact frozen_block h k
theorem Ty.ne {W : World} {b b' : Nat} {e e' : TypeId} (h : Ty W b e) (h' : Ty W b' e') (he : e ≠ e') : b ≠ b' := by
  rintro rfl
  obtain ⟨cs, h⟩ := h; obtain ⟨cs', h'⟩ := h'
  rw [h] at h'; injection h' with h'; injection h' with _ h'
  exact he h'
/-- The memory while the copy yh is written over. -/
structure HM (w : World) (x : Gv) (b7 b8 lo : Nat) (yw yh : Gv) (gs os gd od : Nat) (W : World) : Prop where
  gb : W.heap[w.heap.size]? = some (.cells #[.slice x.sa x.sp.length x.sc, .slice x.da x.du.length x.dc] 63 (0, 0))
  h7 : W.heap[b7]? = some (.cells #[.slice yw.sa yw.sp.length yw.sc, .slice yw.da yw.du.length yw.dc] 63 (0, 0))
  h8 : W.heap[b8]? = some (.cells #[.slice yh.sa yh.sp.length yh.sc, .slice yh.da yh.du.length yh.dc] 63 (0, 0))
  okx : x.Ok W
  okw : yw.Ok W
  lowx : x.Below lo
  loww : yw.Below lo
  sa : 0 < yh.sp.length → yh.sa = some ⟨gs, os, none⟩ ∧ lo ≤ gs ∧ Ty W gs 41
  st : ∀ s (h : s < yh.sp.length), W.cell? ⟨gs, os + s * 4 + 2, none⟩ = some (.slice (yh.sp[s]).aA (yh.sp[s]).s.A.length (yh.sp[s]).cA) ∧ ∃ v, W.cell? ⟨gs, os + s * 4 + 1, none⟩ = some v
  by_ : ∀ s (h : s < yh.sp.length), 0 < (yh.sp[s]).s.A.length → ∃ g off, (yh.sp[s]).aA = some ⟨g, off, none⟩ ∧ lo ≤ g ∧ Ty W g 5 ∧ ∀ k, k < (yh.sp[s]).s.A.length → ∃ z : UInt8, W.cell? ⟨g, off + k, none⟩ = some (bv z)
  da : 0 < yh.du.length → yh.da = some ⟨gd, od, none⟩ ∧ lo ≤ gd ∧ Ty W gd 72
  du : ∀ i, i < yh.du.length → ∃ v, W.cell? ⟨gd, od + i * 5 + 4, none⟩ = some v
  fr : Fr No w W
  ll : w.heap.size < lo
/-- A store into a block of the copy. -/
theorem HM.set {w W : World} {x : Gv} {b7 b8 lo gs os gd od b k : Nat} {yw yh : Gv} {e : TypeId} {v : Value} (h : HM w x b7 b8 lo yw yh gs os gd od W) (hb : lo ≤ b) (ht : Ty W b e) (he : e ≠ 63)
    (c1 : 0 < yh.sp.length → b = gs → ∀ s, s < yh.sp.length → os + s * 4 + 2 ≠ k) (c2 : e = 5 → ∃ z : UInt8, v = bv z) : HM w x b7 b8 lo yw yh gs os gd od (W.setCell ⟨b, k, none⟩ v) := by
  have f : Fr (fun q _ => lo ≤ q) W (W.setCell ⟨b, k, none⟩ v) := (frSet W b k v).mono fun q o _ e2 => by have e3 : q = b := e2.1; omega
  have hg : ∀ {q : Nat} {cs : Array Value}, W.heap[q]? = some (.cells cs 63 (0, 0)) → (W.setCell ⟨b, k, none⟩ v).heap[q]? = some (.cells cs 63 (0, 0)) := fun hq => heap_ne hq (fun e2 => Ty.ne ht ⟨_, hq⟩ he e2.symm) v
  refine ⟨hg h.gb, hg h.h7, hg h.h8, h.okx.far h.lowx f, h.okw.far h.loww f, h.lowx, h.loww, fun h0 => ⟨(h.sa h0).1, (h.sa h0).2.1, (h.sa h0).2.2.set v⟩, fun s hs => ⟨?_, ?_⟩, fun s hs h0 => ?_, fun h0 => ⟨(h.da h0).1, (h.da h0).2.1, (h.da h0).2.2.set v⟩, fun i hi => ?_, h.fr.step f (fun q o hq e2 => by have e3 : lo ≤ q := e2; have := h.ll; omega), h.ll⟩
  · exact cell_else (h.st s hs).1 fun e2 => c1 (by omega) e2.1.symm s hs e2.2
  · obtain ⟨u, hu⟩ := (h.st s hs).2
    exact cell_there hu
  · obtain ⟨g, off, e1, e2, e3, e4⟩ := h.by_ s hs h0
    refine ⟨g, off, e1, e2, e3.set v, fun q hq => ?_⟩
    obtain ⟨z, hz⟩ := e4 q hq
    by_cases e5 : g = b ∧ off + q = k
    · obtain ⟨rfl, rfl⟩ := e5
      by_cases e6 : e = 5
      · obtain ⟨z', rfl⟩ := c2 e6
        exact ⟨z', World.cell?_setCell_same _ _ _ hz⟩
      · exact absurd rfl (Ty.ne ht e3 e6)
    · exact ⟨z, cell_else hz e5⟩
  · obtain ⟨u, hu⟩ := h.du i hi
    exact cell_there hu
theorem own_ty {W : World} {e : TypeId} {size n c : Nat} {a : Option Addr} {xs : List Value} (h : OwnSl W e size (.slice a n c) n xs) (h0 : 0 < n) : ∃ g off, a = some ⟨g, off, none⟩ ∧ Ty W g e ∧ Row W g off xs := by
  rcases h.2 with ⟨_, h1⟩ | ⟨g, off, cap, cur, hv, hg, _, _, _, hr⟩
  · omega
  · injection hv with e1
    exact ⟨g, off, e1, ⟨cur, hg⟩, hr⟩
theorem HM.start {w wc wd : World} {x : Gv} {b7 b8 lo : Nat} {yw yh : Gv} (h : W6 w x b7 b8 lo yw yh wc) (hx : x.Ok w) (f : Fr No wc wd) : ∃ gs os gd od, HM w x b7 b8 lo yw yh gs os gd od wd := by
  have m := h.mine.fr f
  obtain ⟨gs, os, hs⟩ : ∃ gs os, 0 < yh.sp.length → yh.sa = some ⟨gs, os, none⟩ ∧ lo ≤ gs ∧ Ty wd gs 41 ∧ Row wd gs os (yh.sp.flatMap Sp.cells) := by
    by_cases h0 : 0 < yh.sp.length
    · obtain ⟨g, off, e1, e2, e3⟩ := own_ty m.st h0
      exact ⟨g, off, fun _ => ⟨e1, m.ns g (by rw [e1]; rfl), e2, e3⟩⟩
    · exact ⟨0, 0, fun h1 => absurd h1 h0⟩
  obtain ⟨gd, od, hd⟩ : ∃ gd od, 0 < yh.du.length → yh.da = some ⟨gd, od, none⟩ ∧ lo ≤ gd ∧ Ty wd gd 72 ∧ Row wd gd od (yh.du.flatMap Dct.cells) := by
    by_cases h0 : 0 < yh.du.length
    · obtain ⟨g, off, e1, e2, e3⟩ := own_ty m.du h0
      exact ⟨g, off, fun _ => ⟨e1, m.nd g (by rw [e1]; rfl), e2, e3⟩⟩
    · exact ⟨0, 0, fun h1 => absurd h1 h0⟩
  refine ⟨gs, os, gd, od, (f.block _ (heap_lt h.gb) (fun _ z => z)).trans h.gb, (f.block _ (heap_lt h.h7) (fun _ z => z)).trans h.h7, (f.block _ (heap_lt h.h8) (fun _ z => z)).trans h.h8, hx.fr (h.fr.trans f), h.okw.fr f, hx.below.le (by have := h.lo; omega), h.low, fun h0 => ⟨(hs h0).1, (hs h0).2.1, (hs h0).2.2.1⟩, fun s hl => ?_, fun s hl h0 => ?_, fun h0 => ⟨(hd h0).1, (hd h0).2.1, (hd h0).2.2.1⟩, fun i hi => ?_, h.fr.trans f, h.lo⟩
  · obtain ⟨c0, c1, c2, c3⟩ := sp_cells (hs (by omega)).2.2.2 hl
    exact ⟨c2, _, c1⟩
  · obtain ⟨ha, hn⟩ := m.a _ (List.getElem_mem hl)
    obtain ⟨g, off, e1, e2, e3⟩ := own_ty ha h0
    refine ⟨g, off, e1, hn g (by rw [e1]; rfl), e2, fun k hk => ?_⟩
    exact ⟨((yh.sp[s]).s.A)[k], e3.get k _ (by simp [hk])⟩
  · exact ⟨_, (dc_cells (hd (by omega)).2.2.2 hi).2.2.2.2⟩
end Go.Proofs.Ytljldkknopmfhaa
