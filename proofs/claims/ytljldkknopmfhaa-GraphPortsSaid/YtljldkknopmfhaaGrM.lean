/- Graphs, the document's words: Own, Same. -/
import Derived.Test.YtljldkknopmfhaaGrS
import Derived.Test.YtljldkknopmfhaaGrT
import Derived.Deep.RegionLaw
import Derived.Deep.RegionHeld3
import Derived.Laws.ResultCell
import Derived.BigQuiet
namespace Go.Proofs.Ytljldkknopmfhaa
open Go.RowKit

theorem params_info : (Try.prog.info? 41).map (fun i => (i.zero, i.size, i.bytes)) = some (some (.agg #[.int .i64 0, .int .i64 0, .slice none 0 0, .slice none 0 0]), 4, 64) := by kernel_rfl
theorem duct_info : (Try.prog.info? 72).map (fun i => (i.zero, i.size, i.bytes)) = some (some (.agg #[.int .i64 0, .int .i64 0, .int .i64 0, .int .i64 0, .int .i64 0]), 5, 40) := by kernel_rfl
/-- A stage's bytes lie apart from a row. -/
def Sp.Apart (p : Sp) (v : Value) : Prop := (0 < p.s.A.length → ∀ g off, p.aA = some ⟨g, off, none⟩ → v.ownBlock ≠ some g) ∧ (0 < p.s.B.length → ∀ g off, p.aB = some ⟨g, off, none⟩ → v.ownBlock ≠ some g)
theorem at_blk {w w' : World} {a : Option Addr} {vs : List Value} {v : Value} (h : At w a vs) (f : Fr (Blk v) w w') (hv : 0 < vs.length → ∀ g off, a = some ⟨g, off, none⟩ → v.ownBlock ≠ some g) : At w' a vs :=
  h.fr f fun g off e _ i hi e2 => hv (by omega) g off e e2
theorem Sp.Ok.blk {w w' : World} {p : Sp} {v : Value} (h : p.Ok w) (f : Fr (Blk v) w w') (hv : p.Apart v) : p.Ok w' :=
  ⟨at_blk h.1 f (fun h0 => hv.1 (by simpa using h0)), at_blk h.2.1 f (fun h0 => hv.2 (by simpa using h0)), h.2.2⟩
theorem at_lt {w : World} {a : Option Addr} {vs : List Value} (h : At w a vs) (h0 : 0 < vs.length) {g off : Nat} (e : a = some ⟨g, off, none⟩) : g < w.heap.size := by
  obtain ⟨g', off', e', hr⟩ := h h0
  rw [e] at e'; injection e' with e'; injection e' with e1 e2; subst e1
  exact hr.lt h0
/-- Apart from a row that lies behind them. -/
theorem Sp.Ok.apart {w : World} {p : Sp} {v : Value} (h : p.Ok w) (hv : ∀ b, v.ownBlock = some b → w.heap.size ≤ b) : p.Apart v :=
  ⟨fun h0 g off e e2 => by have := at_lt h.1 (by simpa using h0) e; have := hv g e2; omega, fun h0 g off e e2 => by have := at_lt h.2.1 (by simpa using h0) e; have := hv g e2; omega⟩
theorem at_other {w : World} {a : Option Addr} {vs : List Value} (h : At w a vs) {g k : Nat} {u : Value} (hc : w.cell? ⟨g, k, none⟩ = some u) (hu : u ∉ vs) (v : Value) : At (w.setCell ⟨g, k, none⟩ v) a vs := by
  intro hp
  obtain ⟨b, o, rfl, hr⟩ := h hp
  refine ⟨b, o, rfl, hr.fr (frSet w g k v) fun i hi e => ?_⟩
  obtain ⟨e1, e2⟩ := e
  have h1 := hr.get i vs[i] (by simp [hi])
  rw [e1, e2, hc] at h1
  injection h1 with h1
  exact hu (h1 ▸ List.getElem_mem _)
theorem slice_no_byte {a : Option Addr} {n c : Nat} (l : List UInt8) : Value.slice a n c ∉ l.map bv := fun h => by
  obtain ⟨x, _, e⟩ := List.mem_map.1 h
  cases e
theorem Sp.Ok.boxed {w : World} {p : Sp} (h : p.Ok w) {g k : Nat} {a : Option Addr} {n c : Nat} (hc : w.cell? ⟨g, k, none⟩ = some (.slice a n c)) (v : Value) : p.Ok (w.setCell ⟨g, k, none⟩ v) :=
  ⟨at_other h.1 hc (slice_no_byte _) v, at_other h.2.1 hc (slice_no_byte _) v, h.2.2⟩
/-- The memory of Own, when k stages have been gone through. -/
structure OW (w : World) (x : Gv) (L : List Sp) (v : Value) (W : World) : Prop where
  box : W.heap[w.heap.size + 1 + 1]? = some (.cells #[v, .slice none 0 0] 63 (0, 0))
  res : W.heap[w.heap.size + 1]? = some (.cells #[.slice none 0 0, .slice none 0 0] 63 (0, 0))
  gb : W.heap[w.heap.size]? = some (.cells #[.slice x.sa x.sp.length x.sc, .slice x.da x.du.length x.dc] 63 (0, 0))
  own : OwnSl W 41 4 v L.length (L.flatMap Sp.cells)
  new : ∀ b, v.ownBlock = some b → w.heap.size ≤ b
  sp : ∀ p ∈ L, p.Ok W ∧ p.Apart v
  fr : Fr No w W
theorem ow_start (w : World) (x : Gv) : OW w x [] (.slice none 0 0) (((w.alloc (.cells #[.slice x.sa x.sp.length x.sc, .slice x.da x.du.length x.dc] 63)).alloc (.cells #[.slice none 0 0, .slice none 0 0] 63)).alloc (.cells #[.slice none 0 0, .slice none 0 0] 63)) := by
  refine ⟨?_, ?_, box_block (((Fr.refl No _).alloc _).alloc _), OwnSl.nil _ _ _, by simp [Value.ownBlock], by simp, (((Fr.refl No w).alloc _).alloc _).alloc _⟩
  · have := heap_alloc_new ((w.alloc (.cells #[.slice x.sa x.sp.length x.sc, .slice x.da x.du.length x.dc] 63)).alloc (.cells #[.slice none 0 0, .slice none 0 0] 63)) (.cells #[.slice none 0 0, .slice none 0 0] 63)
    rwa [show ((w.alloc (.cells #[.slice x.sa x.sp.length x.sc, .slice x.da x.du.length x.dc] 63)).alloc (.cells #[.slice none 0 0, .slice none 0 0] 63)).heap.size = w.heap.size + 1 + 1 from by simp] at this
  · have := box_block (w := w.alloc (.cells #[.slice x.sa x.sp.length x.sc, .slice x.da x.du.length x.dc] 63)) ((Fr.refl No ((w.alloc (.cells #[.slice x.sa x.sp.length x.sc, .slice x.da x.du.length x.dc] 63)).alloc (.cells #[.slice none 0 0, .slice none 0 0] 63))).alloc (.cells #[.slice none 0 0, .slice none 0 0] 63))
    rwa [show (w.alloc (.cells #[.slice x.sa x.sp.length x.sc, .slice x.da x.du.length x.dc] 63)).heap.size = w.heap.size + 1 from by simp] at this
theorem OW.ne {w W : World} {x : Gv} {L : List Sp} {v : Value} (h : OW w x L v W) {b : Nat} {cs : Array Value} (hb : W.heap[b]? = some (.cells cs 63 (0, 0))) : v.ownBlock ≠ some b := by
  intro e
  rcases h.own.2 with ⟨hv, _⟩ | ⟨g, off, cap, cur, hv, hg, _⟩
  · rw [hv] at e; cases e
  · rw [hv] at e; injection e with e; simp only at e; subst e
    rw [hb] at hg; injection hg with hg; injection hg with _ hg
    exact absurd hg (by decide)
/-- A stage's copy is laid behind the others. -/
theorem OW.next {w W W4 W5 : World} {x : Gv} {L : List Sp} {v v1 : Value} (h : OW w x L v W) (p : Sp) (f4 : Fr No W W4) (hp : p.Ok W4) (hpn : p.Apart v) (cs : Array Value) (hown : OwnSl W5 41 4 v1 (L.length + 1) (L.flatMap Sp.cells ++ p.cells))
    (hf : Fr (Blk v) (W4.alloc (.cells cs 41)) W5) (hb : v1.ownBlock = v.ownBlock ∨ v1.ownBlock = some (W4.alloc (.cells cs 41)).heap.size) :
    OW w x (L ++ [p]) v1 (W5.setCell ⟨w.heap.size + 1 + 1, 0, none⟩ v1) := by
  have f5 : Fr No W (W4.alloc (.cells cs 41)) := f4.alloc _
  have hk : ∀ {b : Nat} {cs' : Array Value}, W.heap[b]? = some (.cells cs' 63 (0, 0)) → W5.heap[b]? = some (.cells cs' 63 (0, 0)) := fun {b cs'} hb' => by
    have h1 := (f5.block b (heap_lt hb') (fun _ y => y)).trans hb'
    exact (hf.block b (heap_lt h1) (fun o e => h.ne hb' e)).trans h1
  have hsz := h.fr.size
  have hsz4 := f4.size
  have hlt := h.own.lt
  have hv1 : ∀ b, v1.ownBlock = some b → w.heap.size ≤ b := fun b e => by
    rcases hb with h1 | h1
    · rw [h1] at e; exact h.new b e
    · rw [h1] at e; injection e with e; simp at e; omega
  have hne1 : ∀ {b : Nat} {cs' : Array Value}, W.heap[b]? = some (.cells cs' 63 (0, 0)) → v1.ownBlock ≠ some b := fun {b cs'} hb' e => by
    rcases hb with h1 | h1
    · rw [h1] at e; exact h.ne hb' e
    · rw [h1] at e; injection e with e; have := heap_lt hb'; simp at e; omega
  have hbx := hk h.box
  have hcell := cell_block hbx 0
  have hfs := frSet W5 (w.heap.size + 1 + 1) 0 v1
  have apart1 : ∀ q : Sp, q.Ok W4 → q.Apart v → q.Apart v1 := fun q hq hqa => by
    rcases hb with h1 | h1
    · unfold Sp.Apart; rw [h1]; exact hqa
    · refine hq.apart fun b e => ?_
      rw [h1] at e; injection e with e; simp at e; omega
  have ok5 : ∀ q : Sp, q.Ok W4 → q.Apart v → q.Ok (W5.setCell ⟨w.heap.size + 1 + 1, 0, none⟩ v1) := fun q hq hqa => by
    have h5 := (hq.fr ((Fr.refl No W4).alloc (.cells cs 41))).blk hf hqa
    obtain ⟨a0, c0, hv0, -, -⟩ := h.own.at
    rw [hv0] at hcell
    exact h5.boxed hcell v1
  refine ⟨?_, ?_, ?_, ?_, hv1, fun q hq => ?_, ?_⟩
  · rw [setCell_eq_setRow W5 _ 0 _ _ (0, 0) _ hbx, setRow_heap W5 _ _ _ _ _ hbx]; rfl
  · rw [hfs.block _ (heap_lt (hk h.res)) (fun o e => by have := e.1; omega)]; exact hk h.res
  · rw [hfs.block _ (heap_lt (hk h.gb)) (fun o e => by have := e.1; omega)]; exact hk h.gb
  · have e1 : (L ++ [p]).flatMap Sp.cells = L.flatMap Sp.cells ++ p.cells := by simp
    rw [e1, List.length_append]
    exact hown.fr hfs fun b o e e2 => hne1 h.box (by rw [e, e2.1])
  · rcases List.mem_append.1 hq with hq | hq
    · obtain ⟨k1, k2⟩ := h.sp q hq
      exact ⟨ok5 q (k1.fr f4) k2, apart1 q (k1.fr f4) k2⟩
    · simp only [List.mem_singleton] at hq; subst hq
      exact ⟨ok5 q hp hpn, apart1 q hp hpn⟩
  · exact ((h.fr.trans f5).step hf (fun b o hb' e => by have := h.new b e; omega)).step hfs (fun b o hb' e => by have := e.1; omega)
/-- In the midst of a round: behind the append, ahead of the store. -/
theorem OW.mid {w W W4 W5 : World} {x : Gv} {L : List Sp} {v : Value} (h : OW w x L v W) (f4 : Fr No W W4) (cs : Array Value) (hf : Fr (Blk v) (W4.alloc (.cells cs 41)) W5) :
    Fr No w W5 ∧ W5.heap[w.heap.size]? = some (.cells #[.slice x.sa x.sp.length x.sc, .slice x.da x.du.length x.dc] 63 (0, 0)) ∧ W5.heap[w.heap.size + 1 + 1]? = some (.cells #[v, .slice none 0 0] 63 (0, 0)) := by
  have f5 : Fr No W (W4.alloc (.cells cs 41)) := f4.alloc _
  have hk : ∀ {b : Nat} {cs' : Array Value}, W.heap[b]? = some (.cells cs' 63 (0, 0)) → W5.heap[b]? = some (.cells cs' 63 (0, 0)) := fun {b cs'} hb' => by
    have h1 := (f5.block b (heap_lt hb') (fun _ y => y)).trans hb'
    exact (hf.block b (heap_lt h1) (fun o e => h.ne hb' e)).trans h1
  exact ⟨(h.fr.trans f5).step hf (fun b o hb' e => by have := h.new b e; omega), hk h.gb, hk h.box⟩
def GC (w : World) (x : Gv) (gs os k : Nat) (p : Sp) (W : World) : Prop :=
  W.cell? ⟨w.heap.size, 0, none⟩ = some (.slice (some ⟨gs, os, none⟩) x.sp.length x.sc) ∧ W.cell? ⟨gs, os + k * 4, none⟩ = some (.int .i64 p.s.k) ∧ W.cell? ⟨gs, os + k * 4 + 1, none⟩ = some (.int .i64 p.s.n) ∧
  W.cell? ⟨gs, os + k * 4 + 2, none⟩ = some (.slice p.aA p.s.A.length p.cA) ∧ W.cell? ⟨gs, os + k * 4 + 3, none⟩ = some (.slice p.aB p.s.B.length p.cB)
theorem gc_at {w : World} {x : Gv} {gs os k : Nat} (_hx : x.Ok w) (hsa : x.sa = some ⟨gs, os, none⟩) (hsr : Row w gs os (x.sp.flatMap Sp.cells)) (hk : k < x.sp.length) {W : World} (hf : Fr No w W)
    (hg : W.heap[w.heap.size]? = some (.cells #[.slice x.sa x.sp.length x.sc, .slice x.da x.du.length x.dc] 63 (0, 0))) : GC w x gs os k x.sp[k] W :=
  ⟨(cell_block hg 0).trans (by rw [hsa]; rfl), sp_cells (hsr.fr hf (fun _ _ y => y)) hk⟩
theorem OW.keep {w W W' : World} {x : Gv} {L : List Sp} {v : Value} (h : OW w x L v W) (f : Fr No W W') : OW w x L v W' :=
  ⟨(f.block _ (heap_lt h.box) (fun _ y => y)).trans h.box, (f.block _ (heap_lt h.res) (fun _ y => y)).trans h.res, (f.block _ (heap_lt h.gb) (fun _ y => y)).trans h.gb, h.own.fr f (fun _ _ _ y => y), h.new, fun p hp => ⟨(h.sp p hp).1.fr f, (h.sp p hp).2⟩, h.fr.trans f⟩
/-- Ownership parts blocks of different types. -/
theorem own_ne {w : World} {t e : TypeId} {size n : Nat} {v : Value} {xs : List Value} (h : OwnSl w e size v n xs) (het : e ≠ t) {b : Nat} {cs : Array Value} (hb : w.heap[b]? = some (.cells cs t (0, 0))) : v.ownBlock ≠ some b := by
  intro eq
  rcases h.2 with ⟨hv, _⟩ | ⟨g, off, cap, cur, hv, hg, _⟩
  · rw [hv] at eq; cases eq
  · rw [hv] at eq; injection eq with eq; simp only at eq; subst eq
    rw [hb] at hg; injection hg with hg; injection hg with _ hg
    exact het hg.symm
/-- The stages' and the ducts' rows lie in blocks of their own types. -/
def Rows2 (W : World) (y : Gv) : Prop := OwnSl W 41 4 (.slice y.sa y.sp.length y.sc) y.sp.length (y.sp.flatMap Sp.cells) ∧ OwnSl W 72 5 (.slice y.da y.du.length y.dc) y.du.length (y.du.flatMap Dct.cells)
theorem OW.done {w w5 : World} {x : Gv} {L : List Sp} {va va5 : Option Addr} {vc vc5 : Nat} (h : OW w x L (.slice va L.length vc) w5) (hown : OwnSl w5 72 5 (.slice va5 x.du.length vc5) x.du.length (x.du.flatMap Dct.cells)) (hx : x.Ok w) :
    (((w5.setCell ⟨w.heap.size + 1 + 1, 1, none⟩ (.slice va5 x.du.length vc5)).setCell ⟨w.heap.size + 1, 0, none⟩ (.slice va L.length vc)).setCell ⟨w.heap.size + 1, 1, none⟩ (.slice va5 x.du.length vc5)).heap[w.heap.size + 1]? = some (.cells #[.slice va L.length vc, .slice va5 x.du.length vc5] 63 (0, 0)) ∧
    Gv.Ok (((w5.setCell ⟨w.heap.size + 1 + 1, 1, none⟩ (.slice va5 x.du.length vc5)).setCell ⟨w.heap.size + 1, 0, none⟩ (.slice va L.length vc)).setCell ⟨w.heap.size + 1, 1, none⟩ (.slice va5 x.du.length vc5)) ⟨L, x.du, va, vc, va5, vc5⟩ ∧
    Fr No w (((w5.setCell ⟨w.heap.size + 1 + 1, 1, none⟩ (.slice va5 x.du.length vc5)).setCell ⟨w.heap.size + 1, 0, none⟩ (.slice va L.length vc)).setCell ⟨w.heap.size + 1, 1, none⟩ (.slice va5 x.du.length vc5)) ∧
    Rows2 (((w5.setCell ⟨w.heap.size + 1 + 1, 1, none⟩ (.slice va5 x.du.length vc5)).setCell ⟨w.heap.size + 1, 0, none⟩ (.slice va L.length vc)).setCell ⟨w.heap.size + 1, 1, none⟩ (.slice va5 x.du.length vc5)) ⟨L, x.du, va, vc, va5, vc5⟩ := by
  have f6 := frSet w5 (w.heap.size + 1 + 1) 1 (.slice va5 x.du.length vc5)
  have r6 : (w5.setCell ⟨w.heap.size + 1 + 1, 1, none⟩ (.slice va5 x.du.length vc5)).heap[w.heap.size + 1]? = some (.cells #[.slice none 0 0, .slice none 0 0] 63 (0, 0)) := (f6.block _ (heap_lt h.res) (fun o e => by have := e.1; omega)).trans h.res
  have c5 := cell_block h.box 1
  have hne := h.ne h.res
  have hne2 := h.ne h.box
  have dne := own_ne hown (by decide) h.res
  have dne2 := own_ne hown (by decide) h.box
  obtain ⟨a, c, hv, hat, -⟩ := h.own.at
  injection hv with hv1 hv2 hv3; subst hv1
  obtain ⟨a', c', hv', hat', -⟩ := hown.at
  injection hv' with hv1' hv2' hv3'; subst hv1'
  have hsp := h.sp
  have hfr := h.fr
  have hw := h.own
  have hd := hown
  clear h hown
  have f6' := hfr.step f6 (fun b o hb e => by have := e.1; omega)
  have sp6 : ∀ p ∈ L, p.Ok (w5.setCell ⟨w.heap.size + 1 + 1, 1, none⟩ (.slice va5 x.du.length vc5)) := fun p hp => (hsp p hp).1.boxed c5 _
  have at6 := hat.fr f6 (fun g off e _ i _ e2 => hne2 (by rw [e, ← e2.1]; rfl))
  have du6 := hat'.fr f6 (fun g off e _ i _ e2 => dne2 (by rw [e, ← e2.1]; rfl))
  have hw6 := hw.fr f6 (fun b o e e2 => hne2 (by rw [e, e2.1]))
  have hd6 := hd.fr f6 (fun b o e e2 => dne2 (by rw [e, e2.1]))
  generalize w5.setCell ⟨w.heap.size + 1 + 1, 1, none⟩ (.slice va5 x.du.length vc5) = w6 at *
  have f7 := frSet w6 (w.heap.size + 1) 0 (.slice va L.length vc)
  have r7 : (w6.setCell ⟨w.heap.size + 1, 0, none⟩ (.slice va L.length vc)).heap[w.heap.size + 1]? = some (.cells #[.slice va L.length vc, .slice none 0 0] 63 (0, 0)) := by
    rw [setCell_eq_setRow w6 _ 0 _ _ (0, 0) _ r6, setRow_heap w6 _ _ _ _ _ r6]; rfl
  have f7' := f6'.step f7 (fun b o hb e => by have := e.1; omega)
  have sp7 := fun p hp => (sp6 p hp).boxed (cell_block r6 0) (.slice va L.length vc)
  have at7 := at6.fr f7 (fun g off e _ i _ e2 => hne (by rw [e, ← e2.1]; rfl))
  have du7 := du6.fr f7 (fun g off e _ i _ e2 => dne (by rw [e, ← e2.1]; rfl))
  have hw7 := hw6.fr f7 (fun b o e e2 => hne (by rw [e, e2.1]))
  have hd7 := hd6.fr f7 (fun b o e e2 => dne (by rw [e, e2.1]))
  generalize w6.setCell ⟨w.heap.size + 1, 0, none⟩ (.slice va L.length vc) = w7 at *
  have f8 := frSet w7 (w.heap.size + 1) 1 (.slice va5 x.du.length vc5)
  refine ⟨?_, ⟨at7.fr f8 (fun g off e _ i _ e2 => hne (by rw [e, ← e2.1]; rfl)), du7.fr f8 (fun g off e _ i _ e2 => dne (by rw [e, ← e2.1]; rfl)), fun p hp => (sp7 p hp).boxed (cell_block r7 1) _, hx.dc⟩, f7'.step f8 (fun b o hb e => by have := e.1; omega), hw7.fr f8 (fun b o e e2 => hne (by rw [e, e2.1])), hd7.fr f8 (fun b o e e2 => dne (by rw [e, e2.1]))⟩
  rw [setCell_eq_setRow w7 _ 1 _ _ (0, 0) _ r7, setRow_heap w7 _ _ _ _ _ r7]; rfl
def ROwnGP (w : World) (x : Gv) (e : Ending) (w' : World) : Prop := ∃ y : Gv, e = .returned (.agg #[.slice y.sa y.sp.length y.sc, .slice y.da y.du.length y.dc]) ∧ y.g = x.g ∧ y.Ok w' ∧ Fr No w w' ∧ Rows2 w' y
set_option maxHeartbeats 8000000 in
set_option maxRecDepth 100000 in
theorem rown_graph (w : World) (x : Gv) (hx : x.Ok w) (hsm : Sml x) : Calls Try.prog 43 #[.agg #[.slice x.sa x.sp.length x.sc, .slice x.da x.du.length x.dc]] w (ROwnGP w x) := by
  obtain ⟨i0, hi, iz0, iz1, iz2⟩ := info_parts params_info
  obtain ⟨j0, hj, jz0, jz1, jz2⟩ := info_parts duct_info
  have HS := Lib.hid (ow_start w x)
  have HX := Lib.hid hx; have HSM := Lib.hid hsm
  have hs200 := hsm.s
  have hd200 := hsm.d
  have hsi : (x.sp.length : Int) ≤ 200 := by omega
  have hsz : (Try.prog.info? 63).map (·.size) = some 2 := by kernel_rfl
  have HSZ := Lib.hid hsz
  clear hx hsm hsz
  go_enter Try.func43, Try.ntmps43
  go_wp2
  generalize ((w.alloc (.cells #[.slice x.sa x.sp.length x.sc, .slice x.da x.du.length x.dc] 63)).alloc (.cells #[.slice none 0 0, .slice none 0 0] 63)).alloc (.cells #[.slice none 0 0, .slice none 0 0] 63) = w1 at *
  go_loopw [4] (fun i wr => ∃ k : Nat, k ≤ x.sp.length ∧ i = .int .i64 k ∧ Hid (∃ L v, OW w x L v wr ∧ L.length = k ∧ L.map Sp.s = (x.sp.take k).map Sp.s)) (fun i _ => x.sp.length - (intOf i).toNat)
  case atStart => exact ⟨0, Nat.zero_le _, rfl, Lib.hid ⟨[], _, HS.out, rfl, rfl⟩⟩
  case round =>
    obtain ⟨k, hk, rfl, HK⟩ := hrel
    clear HS
    obtain ⟨L, v, hO, rfl, hLm⟩ := HK.out
    have HO := Lib.hid hO; have HLM := Lib.hid hLm
    obtain ⟨va, vc, hv, -, -⟩ := hO.own.at
    subst hv
    have c0 := cell_block hO.gb 0
    have c1 := cell_block hO.gb 1
    clear hO hLm HK
    by_cases hlt : L.length < x.sp.length
    · have hki : (L.length : Int) < x.sp.length := by omega
      obtain ⟨gs, os, hsa, hsr⟩ := HX.out.st.flat sp_len (by decide) (by omega)
      have hmem := List.getElem_mem hlt
      have HGC := Lib.hid (fun (W : World) (hf : Fr No w W) (hg : W.heap[w.heap.size]? = some (.cells #[.slice x.sa x.sp.length x.sc, .slice x.da x.du.length x.dc] 63 (0, 0))) => gc_at HX.out hsa hsr hlt hf hg)
      have HOK := Lib.hid (fun (W : World) (h : Fr No wr W) => ((HX.out.fr HO.out.fr).sp _ hmem).fr h)
      have HRO := Lib.hid (fun (W : World) (h : Fr No wr W) => own_any (x.sp[L.length]).s.k (x.sp[L.length]).s.n (x.sp[L.length]).aA (x.sp[L.length]).aB (x.sp[L.length]).s.A (x.sp[L.length]).s.B (x.sp[L.length]).cA (x.sp[L.length]).cB W (HOK.out W h).1 (HOK.out W h).2.1 (by have := (HSM.out.b _ hmem).1; omega) (by have := (HSM.out.b _ hmem).2; omega))
      have HTK := Lib.hid (show (x.sp.take (L.length + 1)).map Sp.s = (x.sp.take L.length).map Sp.s ++ [(x.sp[L.length]).s] from by rw [List.take_succ_eq_append_getElem hlt, List.map_append]; rfl)
      have hwf := (HOK.out wr (Fr.refl _ _)).2.2
      have HWF := Lib.hid hwf
      have HFR := Lib.hid HO.out.own.lt
      have HVA := Lib.hid (show (Value.slice va L.length vc).ownBlock = (Value.slice va L.length vc).ownBlock from rfl)
      clear hmem hsr hsa hwf c0 c1 HOK
      generalize x.sp[L.length] = p at *
      obtain ⟨⟨pk, pn, pA, pB⟩, aA, cA, aB, cB⟩ := p
      dsimp only at *
      obtain ⟨c0, g0, g1, g2, g3⟩ := HGC.out _ HO.out.fr HO.out.gb
      dsimp only at g0 g1 g2 g3
      have cb := cell_block HO.out.box 0
      have hL200 : (L.length : Int) ≤ 200 := by omega
      go_wp2_with fail
      go_region_law (first
          | (refine step_append_sl rfl (.tmp 13) (.tmp 20) 60 60 rfl 41 i0 (.agg #[.int .i64 0, .int .i64 0, .slice none 0 0, .slice none 0 0]) 4 64 Try.underlying60 hi iz0 iz1 iz2 rfl (by decide) (.slice va L.length vc) L.length (L.flatMap Sp.cells) rfl HO2a.out.own _ 1 (Sp.cells ⟨⟨pk, pn, pA, pB⟩, a2, c2, b2, d2⟩) rfl (src_slice Try.underlying60 rfl (fun _ => ⟨w2.heap.size, 0, rfl, row_at w2 #[.int .i64 pk, .int .i64 pn, .slice a2 pA.length c2, .slice b2 pB.length d2] _ rfl _ rfl 41 (0, 0)⟩) (by simp [Sp.cells, Value.oneCell'])) (by omega) (by omega) ?_
             intro v5 w5 hown5 hfr5 hblk5
             obtain ⟨-, -, m3⟩ := HO.out.mid HF2.out _ hfr5
             have HN := Lib.hid (HO.out.next ⟨⟨pk, pn, pA, pB⟩, a2, c2, b2, d2⟩ HF2.out ⟨HA2.out, HB2.out, HWF.out⟩
               ⟨fun _ g off e e2 => by have e' : a2 = some ⟨g, off, none⟩ := e; have h1 := HNA.out g (by rw [e']; rfl); have h2 := HFR.out g e2; (have h3 : (wr.drew).heap.size = wr.heap.size := rfl); omega, fun _ g off e e2 => by have e' : b2 = some ⟨g, off, none⟩ := e; have h1 := HNB.out g (by rw [e']; rfl); have h2 := HFR.out g e2; (have h3 : (wr.drew).heap.size = wr.heap.size := rfl); omega⟩ _ hown5 hfr5 hblk5)
             have cb5 := cell_block m3 0
             have cf5 := frozen_block m3 0
             obtain ⟨va5, vc5, hv5, -, -⟩ := hown5.at
             subst hv5
             clear hown5 hfr5 hblk5 m3)
          | (go_simp; go_at_call 26; refine (HRO.out _ (Fr.refl No wr).drew).mono ?_; rintro e w2 ⟨a2, c2, b2, d2, rfl, hA2, hB2, hf2, hnA, hnB⟩
             have HA2 := Lib.hid hA2; have HB2 := Lib.hid hB2; have HF2 := Lib.hid ((Fr.refl No wr).drew.trans hf2)
             have HNA := Lib.hid hnA; have HNB := Lib.hid hnB
             have HO2 := Lib.hid (HO.out.keep HF2.out)
             have HO2a := Lib.hid (HO2.out.keep ((Fr.refl No w2).alloc (.cells #[.int .i64 pk, .int .i64 pn, .slice a2 pA.length c2, .slice b2 pB.length d2] 41)))
             have cb2 := cell_block HO2.out.box 0
             have cb2a := cell_block HO2a.out.box 0
             clear hA2 hB2 hf2 hnA hnB))
      all_goals go_wp2
      all_goals exact ⟨⟨L.length + 1, by omega, by go_num, Lib.hid ⟨L ++ [⟨⟨pk, pn, pA, pB⟩, a2, c2, b2, d2⟩], _, HN.out, by simp, by rw [List.map_append, HLM.out, HTK.out]; rfl⟩⟩, by simp [intOf]; omega⟩
    · obtain hLx : L.length = x.sp.length := by omega
      have hLm : L.map Sp.s = x.sp.map Sp.s := by rw [HLM.out, hLx, List.take_length]
      have HL2 := Lib.hid hLm
      have HLX := Lib.hid hLx
      clear hLx
      have cb := cell_block HO.out.box 0
      have cb1 := cell_block HO.out.box 1
      have cbf := frozen_block HO.out.box 1
      have cr := cell_block HO.out.res 0
      have cr1 := cell_block HO.out.res 1
      have crf := frozen_block HO.out.res 0
      have crf1 := frozen_block HO.out.res 1
      clear hLm hk
      go_wp2_with (at_builtin
                   refine wpList_append_sl rfl (.tmp 24) (.tmp 26) 61 61 rfl 72 j0 (.agg #[.int .i64 0, .int .i64 0, .int .i64 0, .int .i64 0, .int .i64 0]) 5 40 Try.underlying61 hj jz0 jz1 jz2 rfl (by decide) (.slice none 0 0) 0 [] rfl (OwnSl.nil _ _ _) _ x.du.length (x.du.flatMap Dct.cells) rfl (src_slice Try.underlying61 (flat_length dc_len x.du) (HX.out.fr HO.out.fr).du (by intro y hy; obtain ⟨d, _, hd⟩ := List.mem_flatMap.1 hy; revert hd; simp [Dct.cells]; rintro (rfl | rfl | rfl | rfl | rfl) <;> rfl)) (by omega) (by omega) ?_
                   intro v5 w5 hown5 hfr5 hblk5
                   rw [Nat.zero_add, List.nil_append] at hown5
                   obtain ⟨va5, vc5, hv5, hat5, -⟩ := hown5.at
                   subst hv5
                   have HF5 := Lib.hid ((Fr.refl No wr).step hfr5 (fun b o hb e => by cases e))
                   have HO5 := Lib.hid (HO.out.keep HF5.out)
                   have HW5 := Lib.hid hown5
                   clear cb cb1 cbf cr cr1 crf crf1
                   have cb := cell_block HO5.out.box 0
                   have cb1 := cell_block HO5.out.box 1
                   have cbf := frozen_block HO5.out.box 1
                   have cr := cell_block HO5.out.res 0
                   have cr1 := cell_block HO5.out.res 1
                   have crf := frozen_block HO5.out.res 0
                   have crf1 := frozen_block HO5.out.res 1
                   clear hown5 hfr5 hblk5 hat5)
      obtain ⟨hres, hok, hfr, hr2⟩ := HO5.out.done HW5.out HX.out
      refine bodyPost_ret (v := .agg #[.slice va L.length vc, .slice va5 x.du.length vc5]) (results_cell_row (p := 2) (ty := 63) (by kernel_rfl) _ _ (w.heap.size + 1) 63 #[.slice va L.length vc, .slice va5 x.du.length vc5] (0, 0) _ rfl hres Try.underlying63 rfl HSZ.out) rfl ⟨⟨L, x.du, va, vc, va5, vc5⟩, rfl, ?_, hok, hfr, hr2⟩
      unfold Gv.g; dsimp only; rw [HL2.out]
/-- Two graphs' boxes, and their stages' cells. -/
theorem gbox2 (w : World) (x y : Gv) {W : World} (h : Fr No ((w.alloc (.cells #[.slice x.sa x.sp.length x.sc, .slice x.da x.du.length x.dc] 63)).alloc (.cells #[.slice y.sa y.sp.length y.sc, .slice y.da y.du.length y.dc] 63)) W) :
    (W.cell? ⟨w.heap.size, 0, none⟩ = some (.slice x.sa x.sp.length x.sc) ∧ W.cell? ⟨w.heap.size, 1, none⟩ = some (.slice x.da x.du.length x.dc)) ∧ W.cell? ⟨w.heap.size + 1, 0, none⟩ = some (.slice y.sa y.sp.length y.sc) ∧ W.cell? ⟨w.heap.size + 1, 1, none⟩ = some (.slice y.da y.du.length y.dc) := by
  have b1 := box_block (w := w) (((Fr.refl No _).alloc (.cells #[.slice y.sa y.sp.length y.sc, .slice y.da y.du.length y.dc] 63)).trans h)
  have b2 := box_block h
  rw [show (w.alloc (.cells #[.slice x.sa x.sp.length x.sc, .slice x.da x.du.length x.dc] 63)).heap.size = w.heap.size + 1 from by simp] at b2
  exact ⟨⟨cell_block b1 0, cell_block b1 1⟩, cell_block b2 0, cell_block b2 1⟩
set_option maxHeartbeats 8000000 in
set_option maxRecDepth 100000 in
theorem rsame_graph (w : World) (x y : Gv) (hx : x.Ok w) (hy : y.Ok w) (e : x.g = y.g) (hsm : Sml x) : Calls Try.prog 46 #[.agg #[.slice x.sa x.sp.length x.sc, .slice x.da x.du.length x.dc], .agg #[.slice y.sa y.sp.length y.sc, .slice y.da y.du.length y.dc]] w (RPost w true) := by
  have e1 : x.sp.map Sp.s = y.sp.map Sp.s := congrArg Gr.st e
  have e2 : x.du = y.du := congrArg Gr.du e
  have e3 : x.sp.length = y.sp.length := by have := congrArg List.length e1; simpa using this
  have e4 : x.du.length = y.du.length := by rw [e2]
  have HE1 := Lib.hid e1; have HE2 := Lib.hid e2; have HE3 := Lib.hid e3; have HE4 := Lib.hid e4
  have e3i : (x.sp.length : Int) = y.sp.length := by omega
  have hs200 : (x.sp.length : Int) ≤ 200 := by have := hsm.s; omega
  have hd200 : (x.du.length : Int) ≤ 200 := by have := hsm.d; omega
  have HX := Lib.hid hx; have HY := Lib.hid hy; have HSM := Lib.hid hsm
  have K0 := Lib.hid (((Fr.refl No w).alloc (.cells #[.slice x.sa x.sp.length x.sc, .slice x.da x.du.length x.dc] 63)).alloc (.cells #[.slice y.sa y.sp.length y.sc, .slice y.da y.du.length y.dc] 63))
  have HB := Lib.hid (fun (W : World) (h : Fr No ((w.alloc (.cells #[.slice x.sa x.sp.length x.sc, .slice x.da x.du.length x.dc] 63)).alloc (.cells #[.slice y.sa y.sp.length y.sc, .slice y.da y.du.length y.dc] 63)) W) => gbox2 w x y h)
  generalize hls : y.sp.length = ls at *
  generalize hld : y.du.length = ld at *
  subst e3 e4
  have HLS := Lib.hid hls; have HLD := Lib.hid hld
  clear hx hy hsm e e1 e2 e3i hls hld
  have HR := Lib.hid (Fr.refl No ((w.alloc (.cells #[.slice x.sa x.sp.length x.sc, .slice x.da x.du.length x.dc] 63)).alloc (.cells #[.slice y.sa x.sp.length y.sc, .slice y.da x.du.length y.dc] 63)))
  go_enter Try.func46, Try.ntmps46
  go_wp2
  generalize (w.alloc (.cells #[.slice x.sa x.sp.length x.sc, .slice x.da x.du.length x.dc] 63)).alloc (.cells #[.slice y.sa x.sp.length y.sc, .slice y.da x.du.length y.dc] 63) = w1 at *
  go_loopw [5] (fun i wr => ∃ k : Nat, k ≤ x.sp.length ∧ i = .int .i64 k ∧ Hid (Fr No w1 wr)) (fun i _ => x.sp.length - (intOf i).toNat)
  case atStart => exact ⟨0, Nat.zero_le _, rfl, HR⟩
  case round =>
    obtain ⟨k, hk, rfl, HF⟩ := hrel
    clear HR
    obtain ⟨⟨c0, c1⟩, d0, d1⟩ := HB.out _ HF.out
    by_cases hlt : k < x.sp.length
    · have hki : (k : Int) < x.sp.length := by omega
      have hlty : k < y.sp.length := by rw [HLS.out]; exact hlt
      obtain ⟨gs, os, hsa, hsr⟩ := HX.out.st.flat sp_len (by decide) (by omega)
      obtain ⟨gt, ot, hta, htr⟩ := HY.out.st.flat sp_len (by decide) (by omega)
      have hm1 := List.getElem_mem hlt
      have hm2 := List.getElem_mem hlty
      have hps : (x.sp[k]).s = (y.sp[k]).s := by
        have h1 : (x.sp.map Sp.s)[k]? = (y.sp.map Sp.s)[k]? := by rw [HE1.out]
        simpa [hlt, hlty] using h1
      have HC := Lib.hid (fun (W : World) (h : Fr No w1 W) => show (W.cell? ⟨w.heap.size, 0, none⟩ = some (.slice (some ⟨gs, os, none⟩) x.sp.length x.sc) ∧ W.cell? ⟨w.heap.size + 1, 0, none⟩ = some (.slice (some ⟨gt, ot, none⟩) x.sp.length y.sc)) ∧ _ ∧ _ from
        ⟨⟨(HB.out W h).1.1.trans (by rw [hsa]), (HB.out W h).2.1.trans (by rw [hta])⟩, sp_cells (hsr.fr (K0.out.trans h) (fun _ _ y => y)) hlt, sp_cells (htr.fr (K0.out.trans h) (fun _ _ y => y)) hlty⟩)
      have HOK := Lib.hid (fun (W : World) (h : Fr No w1 W) => show (x.sp[k]).Ok W ∧ (y.sp[k]).Ok W from ⟨(HX.out.sp _ hm1).fr (K0.out.trans h), (HY.out.sp _ hm2).fr (K0.out.trans h)⟩)
      have hb := HSM.out.b _ hm1
      have HBB := Lib.hid hb
      clear hm1 hm2 hsr htr hsa hta c0 c1 d0 d1 hb
      generalize x.sp[k] = p at *
      generalize y.sp[k] = q at *
      clear hlty
      obtain ⟨⟨pk, pn, pA, pB⟩, aA, cA, aB, cB⟩ := p
      obtain ⟨⟨qk, qn, qA, qB⟩, aA', cA', aB', cB'⟩ := q
      dsimp only at *
      injection hps with h1 h2 h3 h4
      subst h1 h2 h3 h4
      have HSA := Lib.hid (fun (W : World) (h : Fr No w1 W) => rsame_any pk pn pk pn aA aB aA' aB' pA pB pA pB cA cB cA' cB' W (HOK.out W h).1.1 (HOK.out W h).1.2.1 (HOK.out W h).2.1 (HOK.out W h).2.2.1 (by have := HBB.out.1; omega) (by have := HBB.out.2; omega) (by have := HBB.out.1; omega) (by have := HBB.out.2; omega))
      rw [show sameB pk pn pk pn pA pB pA pB = true from by simp [sameB]] at HSA
      have HCD := Lib.hid (HC.out _ (HF.out.trans (Fr.refl No wr).drew))
      have c0 := (HC.out _ HF.out).1.1
      go_wp2_with fail
      go_region_held3 (fun W => (W.cell? ⟨w.heap.size, 0, none⟩ = some (.slice (some ⟨gs, os, none⟩) x.sp.length x.sc) ∧ W.cell? ⟨w.heap.size + 1, 0, none⟩ = some (.slice (some ⟨gt, ot, none⟩) x.sp.length y.sc)) ∧
          (W.cell? ⟨gs, os + k * 4, none⟩ = some (.int .i64 pk) ∧ W.cell? ⟨gs, os + k * 4 + 1, none⟩ = some (.int .i64 pn) ∧ W.cell? ⟨gs, os + k * 4 + 2, none⟩ = some (.slice aA pA.length cA) ∧ W.cell? ⟨gs, os + k * 4 + 3, none⟩ = some (.slice aB pB.length cB)) ∧
          (W.cell? ⟨gt, ot + k * 4, none⟩ = some (.int .i64 pk) ∧ W.cell? ⟨gt, ot + k * 4 + 1, none⟩ = some (.int .i64 pn) ∧ W.cell? ⟨gt, ot + k * 4 + 2, none⟩ = some (.slice aA' pA.length cA') ∧ W.cell? ⟨gt, ot + k * 4 + 3, none⟩ = some (.slice aB' pB.length cB')))
        (first | exact HCD.out | exact HC2.out)
        (first
          | (go_at_call 29; refine (HSA.out _ (HF.out.trans (Fr.refl No wr).drew)).mono ?_; rintro e w2 ⟨rfl, hf2⟩
             have HF2 := Lib.hid ((HF.out.trans (Fr.refl No wr).drew).trans hf2)
             have HC2 := Lib.hid (HC.out _ HF2.out)
             clear hf2))
      go_wp2
      go_roundw
      case rel => exact ⟨k + 1, by omega, by go_num, HF2⟩
      case measure => simp [intOf]; omega
    · obtain rfl : k = x.sp.length := by omega
      clear c0 c1 d0 d1
      obtain ⟨⟨c0, c1⟩, d0, d1⟩ := HB.out _ HF.out
      go_wp2
      clear c0 c1 d0 d1
      go_loopw [6] (fun i wy => ∃ k : Nat, k ≤ x.du.length ∧ i = .int .i64 k ∧ Hid (Fr No w1 wy)) (fun i _ => x.du.length - (intOf i).toNat)
      case atStart => exact ⟨0, Nat.zero_le _, rfl, HF⟩
      case round =>
        obtain ⟨k, hk, rfl, HFy⟩ := hrel
        clear HF
        obtain ⟨⟨c0, c1⟩, d0, d1⟩ := HB.out _ HFy.out
        by_cases hlt : k < x.du.length
        · have hki : (k : Int) < x.du.length := by omega
          have hlty : k < y.du.length := by rw [HLD.out]; exact hlt
          obtain ⟨gs, os, hsa, hsr⟩ := (HX.out.fr (K0.out.trans HFy.out)).du.flat dc_len (by decide) (by omega)
          obtain ⟨gt, ot, hta, htr⟩ := (HY.out.fr (K0.out.trans HFy.out)).du.flat dc_len (by decide) (by omega)
          have hps : x.du[k] = y.du[k] := by
            have h1 : x.du[k]? = y.du[k]? := by rw [HE2.out]
            simpa [hlt, hlty] using h1
          obtain ⟨s0, s1, s2, s3, s4⟩ := dc_cells hsr hlt
          obtain ⟨t0, t1, t2, t3, t4⟩ := dc_cells htr hlty
          rw [← hps] at t0 t1 t2 t3 t4
          have c2 : wr.cell? ⟨w.heap.size, 1, none⟩ = some (.slice (some ⟨gs, os, none⟩) x.du.length x.dc) := c1.trans (by rw [hsa])
          have d2 : wr.cell? ⟨w.heap.size + 1, 1, none⟩ = some (.slice (some ⟨gt, ot, none⟩) x.du.length y.dc) := d1.trans (by rw [hta])
          clear hsr htr hsa hta c1 d1 hps
          generalize x.du[k] = d at *
          obtain ⟨frm, out, dto, inn, cap⟩ := d
          dsimp only at *
          go_wp2_with fail
          go_region
          all_goals go_wp2
          all_goals exact ⟨⟨k + 1, by omega, by go_num, Lib.hid (HFy.out.trans (Fr.refl No wr).drew)⟩, by simp [intOf]; omega⟩
        · obtain rfl : k = x.du.length := by omega
          go_wp2
          go_ret
          exact ⟨rfl, K0.out.trans HFy.out⟩
end Go.Proofs.Ytljldkknopmfhaa
