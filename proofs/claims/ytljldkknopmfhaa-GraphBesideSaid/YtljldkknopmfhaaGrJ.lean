/- GraphBeside: the memory of two graphs laid side by side, and what is told of them. -/
import Derived.Test.YtljldkknopmfhaaGrX
import Derived.Deep.RegionLaw
import Derived.Laws.ResultCell
import Derived.BigQuiet
namespace Go.Proofs.Ytljldkknopmfhaa
open Go.RowKit

theorem params_infoJ : (Try.prog.info? 41).map (fun i => (i.zero, i.size, i.bytes)) = some (some (.agg #[.int .i64 0, .int .i64 0, .slice none 0 0, .slice none 0 0]), 4, 64) := by kernel_rfl
theorem duct_infoJ : (Try.prog.info? 72).map (fun i => (i.zero, i.size, i.bytes)) = some (some (.agg #[.int .i64 0, .int .i64 0, .int .i64 0, .int .i64 0, .int .i64 0]), 5, 40) := by kernel_rfl
/-- Ownership parts blocks of different types. -/
theorem own_neJ {w : World} {t e : TypeId} {size n : Nat} {v : Value} {xs : List Value} (h : OwnSl w e size v n xs) (het : e ≠ t) {b : Nat} {cs : Array Value} (hb : w.heap[b]? = some (.cells cs t (0, 0))) : v.ownBlock ≠ some b := by
  intro eq
  rcases h.2 with ⟨hv, _⟩ | ⟨g, off, cap, cur, hv, hg, _⟩
  · rw [hv] at eq; cases eq
  · rw [hv] at eq; injection eq with eq; simp only at eq; subst eq
    rw [hb] at hg; injection hg with hg; injection hg with _ hg
    exact het hg.symm
theorem own_apartJ {w : World} {e1 e2 : TypeId} {s1 s2 n1 n2 : Nat} {v1 v2 : Value} {xs1 xs2 : List Value} (h1 : OwnSl w e1 s1 v1 n1 xs1) (h2 : OwnSl w e2 s2 v2 n2 xs2) (he : e1 ≠ e2) {b : Nat} (hb : v1.ownBlock = some b) : v2.ownBlock ≠ some b := by
  rcases h1.2 with ⟨hv, _⟩ | ⟨g, off, cap, cur, hv, hg, _⟩
  · rw [hv] at hb; cases hb
  · rw [hv] at hb; injection hb with hb; simp only at hb; subst hb
    exact own_neJ h2 (fun e => he e.symm) hg
theorem own_keepJ {w w' : World} {e1 e2 : TypeId} {s1 s2 n1 n2 : Nat} {v1 v2 : Value} {xs1 xs2 : List Value} (f : Fr (Blk v2) w w') (he : e1 ≠ e2) (h1 : OwnSl w e1 s1 v1 n1 xs1) (h2 : OwnSl w e2 s2 v2 n2 xs2) : OwnSl w' e1 s1 v1 n1 xs1 :=
  h1.fr f (fun _ _ e e2 => own_apartJ h1 h2 he e e2)
theorem own_atJ {W : World} {e : TypeId} {size n c : Nat} {a : Option Addr} {xs : List Value} (h : OwnSl W e size (.slice a n c) n xs) : At W a xs := by
  obtain ⟨a', c', hv, hat, _⟩ := h.at
  injection hv with h1; subst h1
  exact hat
/-- A slice of nothing in a block of nothing. -/
theorem own_nilJ {w : World} {g : Nat} {e : TypeId} (size : Nat) (h : w.heap[g]? = some (.cells #[] e (0, 0))) : OwnSl w e size (.slice (some ⟨g, 0, none⟩) 0 0) 0 [] :=
  ⟨by simp, .inr ⟨g, 0, 0, #[], rfl, h, Nat.le_refl _, Nat.zero_le _, by simp, fun i hi => absurd hi (by simp)⟩⟩
theorem sp_one (ss : List Sp) : ∀ y ∈ ss.flatMap Sp.cells, y.oneCell' = true := by
  intro y hy
  obtain ⟨d, _, hd⟩ := List.mem_flatMap.1 hy
  revert hd
  simp [Sp.cells]
  rintro (rfl | rfl | rfl | rfl) <;> rfl
theorem dc_oneJ (ds : List Dct) : ∀ y ∈ ds.flatMap Dct.cells, y.oneCell' = true := by
  intro y hy
  obtain ⟨d, _, hd⟩ := List.mem_flatMap.1 hy
  revert hd
  simp [Dct.cells]
  rintro (rfl | rfl | rfl | rfl | rfl) <;> rfl

/-- A block, later. -/
theorem up0 (W : World) (cs : Array Value) (e : TypeId) (g : Nat) (hg : g = W.heap.size) : (W.alloc (.cells cs e)).heap[g]? = some (.cells cs e (0, 0)) := by subst hg; exact heap_alloc_new W _
theorem up1 {W : World} {g : Nat} {o x : Obj} (h : W.heap[g]? = some o) : (W.alloc x).heap[g]? = some o := (((Fr.refl No W).alloc x).block g (heap_lt h) (fun _ y => y)).trans h
theorem withJ (p : Prop) {q : Prop} (h : p) (k : p → q) : q := k h
theorem upd {W : World} {g : Nat} {o : Obj} (h : W.heap[g]? = some o) : W.drew.heap[g]? = some o := h
/-- What an append onto a row of type e leaves as it is. -/
abbrev Past (e : TypeId) (W W' : World) : Prop := ∀ (g : Nat) (cs : Array Value) (t : TypeId), e ≠ t → W.heap[g]? = some (.cells cs t (0, 0)) → W'.heap[g]? = some (.cells cs t (0, 0))
theorem past_of {W W' : World} {e : TypeId} {size n : Nat} {v : Value} {xs : List Value} (ho : OwnSl W e size v n xs) (f : Fr (Blk v) W W') : Past e W W' := fun g _ _ he h =>
  (f.block g (heap_lt h) (fun _ x => own_neJ ho he h x)).trans h
theorem fr_past {w1 W W' : World} {v : Value} (h : Fr No w1 W) (f : Fr (Blk v) W W') (hv : ∀ b, v.ownBlock = some b → w1.heap.size ≤ b) : Fr No w1 W' := h.step f (fun b o hb e => by have := hv b e; omega)
theorem new_past {w1 W : World} {v v' : Value} (h : Fr No w1 W) (hv : ∀ b, v.ownBlock = some b → w1.heap.size ≤ b) (hb : v'.ownBlock = v.ownBlock ∨ v'.ownBlock = some W.heap.size) : ∀ b, v'.ownBlock = some b → w1.heap.size ≤ b := fun b e => by
  rcases hb with h1 | h1
  · rw [h1] at e; exact hv b e
  · rw [h1] at e; injection e with e; have := h.size; omega
theorem new_at {w1 : World} {g n c : Nat} (hg : w1.heap.size ≤ g) : ∀ b, (Value.slice (some ⟨g, 0, none⟩) n c).ownBlock = some b → w1.heap.size ≤ b := fun b e => by
  have e' : some g = some b := e
  injection e' with e'; omega

/-- The memory of both graphs side by side: D are the ducts so far. -/
structure BS (w1 : World) (x y : Gv) (b : Nat) (sa : Option Addr) (sc : Nat) (vd : Value) (D : List Dct) (W : World) : Prop where
  box : W.heap[b]? = some (.cells #[.slice sa (x.sp.length + y.sp.length) sc, vd] 63 (0, 0))
  st : OwnSl W 41 4 (.slice sa (x.sp.length + y.sp.length) sc) (x.sp.length + y.sp.length) ((x.sp ++ y.sp).flatMap Sp.cells)
  du : OwnSl W 72 5 vd D.length (D.flatMap Dct.cells)
  fr : Fr No w1 W
  lo : w1.heap.size ≤ b
  nd : ∀ q, vd.ownBlock = some q → w1.heap.size ≤ q
theorem BS.keep {w1 W W' : World} {x y : Gv} {b : Nat} {sa : Option Addr} {sc : Nat} {vd : Value} {D : List Dct} (h : BS w1 x y b sa sc vd D W) (f : Fr No W W') : BS w1 x y b sa sc vd D W' :=
  ⟨(f.block _ (heap_lt h.box) (fun _ z => z)).trans h.box, h.st.fr f (fun _ _ _ z => z), h.du.fr f (fun _ _ _ z => z), h.fr.trans f, h.lo, h.nd⟩
theorem putJ0 {W : World} {b : Nat} {c0 c1 v : Value} (h : W.heap[b]? = some (.cells #[c0, c1] 63 (0, 0))) : (W.setCell ⟨b, 0, none⟩ v).heap[b]? = some (.cells #[v, c1] 63 (0, 0)) := by
  rw [setCell_eq_setRow W _ 0 _ _ (0, 0) _ h, setRow_heap W _ _ _ _ _ h]; rfl
theorem putJ1 {W : World} {b : Nat} {c0 c1 v : Value} (h : W.heap[b]? = some (.cells #[c0, c1] 63 (0, 0))) : (W.setCell ⟨b, 1, none⟩ v).heap[b]? = some (.cells #[c0, v] 63 (0, 0)) := by
  rw [setCell_eq_setRow W _ 1 _ _ (0, 0) _ h, setRow_heap W _ _ _ _ _ h]; rfl
theorem own_boxJ {W : World} {b k : Nat} {cs : Array Value} {e : TypeId} {size n : Nat} {u v : Value} {xs : List Value} (h : W.heap[b]? = some (.cells cs 63 (0, 0))) (he : e ≠ 63) (ho : OwnSl W e size u n xs) : OwnSl (W.setCell ⟨b, k, none⟩ v) e size u n xs :=
  ho.fr (frSet W b k v) (fun q o e e2 => own_neJ ho he h (by rw [e, e2.1]))
section
variable {w1 W : World} {x y : Gv} {a2 a3 : Option Addr} {c2 c3 : Nat}
/-- Behind the statement that lays them: the box is laid last. -/
theorem bs_new (h2 : OwnSl W 41 4 (.slice a2 (x.sp.length + y.sp.length) c2) (x.sp.length + y.sp.length) ((x.sp ++ y.sp).flatMap Sp.cells)) (h3 : OwnSl W 72 5 (.slice a3 x.du.length c3) x.du.length (x.du.flatMap Dct.cells)) (hf : Fr No w1 W)
    (hn : ∀ q, (Value.slice a3 x.du.length c3).ownBlock = some q → w1.heap.size ≤ q) :
    BS w1 x y W.heap.size a2 c2 (.slice a3 x.du.length c3) x.du (W.alloc (.cells #[.slice a2 (x.sp.length + y.sp.length) c2, .slice a3 x.du.length c3] 63)) :=
  have f := (Fr.refl No W).alloc (.cells #[.slice a2 (x.sp.length + y.sp.length) c2, .slice a3 x.du.length c3] 63)
  ⟨heap_alloc_new W _, h2.fr f (fun _ _ _ z => z), h3.fr f (fun _ _ _ z => z), hf.trans f, hf.size, hn⟩
/-- .. the box was there. -/
theorem bs_set (h2 : OwnSl W 41 4 (.slice a2 (x.sp.length + y.sp.length) c2) (x.sp.length + y.sp.length) ((x.sp ++ y.sp).flatMap Sp.cells)) (h3 : OwnSl W 72 5 (.slice a3 x.du.length c3) x.du.length (x.du.flatMap Dct.cells)) (hf : Fr No w1 W)
    (hn : ∀ q, (Value.slice a3 x.du.length c3).ownBlock = some q → w1.heap.size ≤ q) {b : Nat} (hb : W.heap[b]? = some (.cells #[.slice none 0 0, .slice none 0 0] 63 (0, 0))) (hl : w1.heap.size ≤ b) :
    BS w1 x y b a2 c2 (.slice a3 x.du.length c3) x.du ((W.setCell ⟨b, 0, none⟩ (.slice a2 (x.sp.length + y.sp.length) c2)).setCell ⟨b, 1, none⟩ (.slice a3 x.du.length c3)) := by
  have b1 := putJ0 (v := .slice a2 (x.sp.length + y.sp.length) c2) hb
  exact ⟨putJ1 b1, own_boxJ b1 (by decide) (own_boxJ hb (by decide) h2), own_boxJ b1 (by decide) (own_boxJ hb (by decide) h3),
    (hf.step (frSet _ _ _ _) (fun q o hq e => by have := e.1; omega)).step (frSet _ _ _ _) (fun q o hq e => by have := e.1; omega), hl, hn⟩
end
/-- A duct is appended. -/
theorem BS.put {w1 W W5 : World} {x y : Gv} {b : Nat} {sa : Option Addr} {sc : Nat} {vd v5 : Value} {D : List Dct} (h : BS w1 x y b sa sc vd D W) (d : Dct) (hown : OwnSl W5 72 5 v5 (D.length + 1) (D.flatMap Dct.cells ++ d.cells)) (hf : Fr (Blk vd) W W5)
    (hb : v5.ownBlock = vd.ownBlock ∨ v5.ownBlock = some W.heap.size) :
    BS w1 x y b sa sc v5 (D ++ [d]) (W5.setCell ⟨b, 1, none⟩ v5) ∧ W5.heap[b]? = some (.cells #[.slice sa (x.sp.length + y.sp.length) sc, vd] 63 (0, 0)) := by
  have hbx : W5.heap[b]? = some (.cells #[.slice sa (x.sp.length + y.sp.length) sc, vd] 63 (0, 0)) := past_of h.du hf b _ _ (by decide) h.box
  have hst := h.st.fr hf (fun b o e e2 => own_apartJ h.st h.du (by decide) e e2)
  refine ⟨⟨putJ1 hbx, own_boxJ hbx (by decide) hst, ?_, (fr_past h.fr hf h.nd).step (frSet _ _ _ _) (fun q o hq e => by have := e.1; have := h.lo; omega), h.lo, new_past h.fr h.nd hb⟩, hbx⟩
  rw [List.length_append, List.flatMap_append, show [d].flatMap Dct.cells = d.cells from by simp]
  exact own_boxJ hbx (by decide) hown
/-- Both graphs as one, where it lies. -/
def joinV (x y : Gv) (sa : Option Addr) (sc : Nat) (da : Option Addr) (dc : Nat) : Gv := ⟨x.sp ++ y.sp, x.du ++ y.du.map (shiftD x.sp.length), sa, sc, da, dc⟩
theorem join_g (x y : Gv) (sa : Option Addr) (sc : Nat) (da : Option Addr) (dc : Nat) : (joinV x y sa sc da dc).g = besideG x.g y.g := by
  unfold Gv.g joinV besideG
  simp
theorem wf_small {n : Int} (h0 : 0 ≤ n) (h1 : n ≤ 1000) : (Lit.int .i64 n).wf = true := by
  simp [Lit.wf, IntKind.min, IntKind.max, IntKind.signed, IntKind.bits]; omega
theorem shift_ok {y : Gv} {w : World} (hy : y.Ok w) (hw : y.g.Whole) {n : Nat} (hn : n ≤ 16) : ∀ d ∈ y.du.map (shiftD n), d.Ok := by
  intro d hd
  obtain ⟨e, he, rfl⟩ := List.mem_map.1 hd
  have h1 := hw.toLaid.ends e he
  have h2 := hw.ns
  have h3 := hy.dc e he
  exact ⟨wf_small (by simp only [shiftD]; omega) (by simp only [shiftD]; omega), h3.2.1, wf_small (by simp only [shiftD]; omega) (by simp only [shiftD]; omega), h3.2.2.2⟩
theorem BS.done {w1 W : World} {x y : Gv} {b : Nat} {sa : Option Addr} {sc : Nat} {da : Option Addr} {dc : Nat} (h : BS w1 x y b sa sc (.slice da (x.du.length + y.du.length) dc) (x.du ++ y.du.map (shiftD x.sp.length)) W) (hx : x.Ok w1) (hy : y.Ok w1) (hw : y.g.Whole) (hn : x.sp.length ≤ 16) : (joinV x y sa sc da dc).Ok W := by
  have h1 := h.st
  have h2 := h.du
  rw [show (x.du ++ y.du.map (shiftD x.sp.length)).length = x.du.length + y.du.length from by simp] at h2
  refine ⟨own_atJ h1, own_atJ h2, fun s hs => ?_, fun d hd => ?_⟩
  · rcases List.mem_append.1 hs with hs | hs
    · exact (hx.sp s hs).fr h.fr
    · exact (hy.sp s hs).fr h.fr
  · rcases List.mem_append.1 hd with hd | hd
    · exact hx.dc d hd
    · exact shift_ok hy hw hn d hd
theorem join_sml {x y : Gv} (hx : Sml x) (hy : Sml y) (wx : x.g.Whole) (wy : y.g.Whole) (sa : Option Addr) (sc : Nat) (da : Option Addr) (dc : Nat) : Sml (joinV x y sa sc da dc) := by
  have h1 := wx.ns; have h2 := wy.ns; have h3 := wx.nd; have h4 := wy.nd
  rw [x.st_len] at h1; rw [y.st_len] at h2; rw [x.du_len] at h3; rw [y.du_len] at h4
  refine ⟨by simp [joinV]; omega, by simp [joinV]; omega, fun s hs => ?_⟩
  rcases List.mem_append.1 hs with hs | hs
  · exact hx.b s hs
  · exact hy.b s hs
/-- A stages' row, told. -/
theorem orderL_whole {g : Gr} (h : g.Whole) : g.orderL = g.order.map (fun (i : Nat) => (i : Int)) ∧ g.orderL.length = g.st.length := by
  have e : g.orderL = g.order.map (fun (i : Nat) => (i : Int)) := if_pos ((check_ok g).2 h)
  exact ⟨e, by rw [e, List.length_map, (order_ok h).len]⟩
theorem orderL_at {g : Gr} (h : g.Whole) {k : Nat} (hk : k < g.orderL.length) : 0 ≤ g.orderL[k] ∧ g.orderL[k] < g.st.length := by
  have he := (orderL_whole h).1
  have hm : g.orderL[k] ∈ g.order.map (fun (i : Nat) => (i : Int)) := by rw [← he]; exact List.getElem_mem hk
  obtain ⟨i, hi, e⟩ := List.mem_map.1 hm
  have := (order_ok h).lt i hi
  omega
theorem orderL_beside {g h : Gr} (hg : g.Whole) (hh : h.Whole) (h1 : g.st.length + h.st.length ≤ 16) (h2 : g.du.length + h.du.length ≤ 64) : (besideG g h).orderL = g.orderL ++ h.orderL.map (· + (g.st.length : Int)) := by
  rw [(orderL_whole (beside_whole hg hh h1 h2)).1, (orderL_whole hg).1, (orderL_whole hh).1, beside_order hg hh, List.map_append, List.map_map, List.map_map]
  congr 1
  refine List.map_congr_left fun i _ => ?_
  simp only [Function.comp_def]
  omega
theorem beside_many {g h : Gr} (hn : 16 < g.st.length + h.st.length ∨ 64 < g.du.length + h.du.length) : (besideG g h).check = (0, 17) ∧ (besideG g h).orderL = [] := by
  have e : (besideG g h).check = (0, 17) := check_laidAt (laidAt_many (by rw [beside_st, beside_du]; exact hn))
  exact ⟨e, if_neg (by rw [e]; decide)⟩
/-- Two graphs' boxes. -/
theorem gboxJ (w : World) (x y : Gv) {W : World} (h : Fr No ((w.alloc (.cells #[.slice x.sa x.sp.length x.sc, .slice x.da x.du.length x.dc] 63)).alloc (.cells #[.slice y.sa y.sp.length y.sc, .slice y.da y.du.length y.dc] 63)) W) :
    (W.cell? ⟨w.heap.size, 0, none⟩ = some (.slice x.sa x.sp.length x.sc) ∧ W.cell? ⟨w.heap.size, 1, none⟩ = some (.slice x.da x.du.length x.dc)) ∧ W.cell? ⟨w.heap.size + 1, 0, none⟩ = some (.slice y.sa y.sp.length y.sc) ∧ W.cell? ⟨w.heap.size + 1, 1, none⟩ = some (.slice y.da y.du.length y.dc) := by
  have b1 := box_block (w := w) (((Fr.refl No _).alloc (.cells #[.slice y.sa y.sp.length y.sc, .slice y.da y.du.length y.dc] 63)).trans h)
  have b2 := box_block h
  rw [show (w.alloc (.cells #[.slice x.sa x.sp.length x.sc, .slice x.da x.du.length x.dc] 63)).heap.size = w.heap.size + 1 from by simp] at b2
  exact ⟨⟨cell_block b1 0, cell_block b1 1⟩, cell_block b2 0, cell_block b2 1⟩
/-- Order of both as one. -/
def JPost (w : World) (x y : Gv) (e : Ending) (w' : World) : Prop :=
  ∃ a c, e = .returned (.tuple #[.slice a (besideG x.g y.g).orderL.length c, .int .i64 (besideG x.g y.g).check.2]) ∧ At w' a ((besideG x.g y.g).orderL.map iv) ∧ Fr No w w'
theorem order_join (w : World) (x y : Gv) (sa : Option Addr) (sc : Nat) (da : Option Addr) (dc : Nat) (h : (joinV x y sa sc da dc).Ok w) (hs : Sml (joinV x y sa sc da dc)) :
    Calls Try.prog 47 #[.agg #[.slice sa (x.sp.length + y.sp.length) sc, .slice da (x.du.length + y.du.length) dc]] w (JPost w x y) := by
  have h1 := order_graph w _ h hs
  unfold OrderPost at h1
  rw [join_g, show (joinV x y sa sc da dc).sp.length = x.sp.length + y.sp.length from by simp [joinV], show (joinV x y sa sc da dc).du.length = x.du.length + y.du.length from by simp [joinV]] at h1
  exact h1
def JMany (w : World) (e : Ending) (w' : World) : Prop := ∃ a c, e = .returned (.tuple #[.slice a 0 c, .int .i64 17]) ∧ Fr No w w'
theorem order_join_many (w : World) (x y : Gv) (sa : Option Addr) (sc : Nat) (da : Option Addr) (dc : Nat) (h : (joinV x y sa sc da dc).Ok w) (hs : Sml (joinV x y sa sc da dc)) (hm : 16 < x.sp.length + y.sp.length ∨ 64 < x.du.length + y.du.length) :
    Calls Try.prog 47 #[.agg #[.slice sa (x.sp.length + y.sp.length) sc, .slice da (x.du.length + y.du.length) dc]] w (JMany w) := by
  have h1 := order_join w x y sa sc da dc h hs
  have h2 := beside_many (g := x.g) (h := y.g) (by rw [x.st_len, y.st_len, x.du_len, y.du_len]; exact hm)
  unfold JPost at h1
  rw [h2.1, h2.2] at h1
  refine h1.mono ?_
  rintro e w' ⟨a, c, rfl, -, hf⟩
  exact ⟨a, c, rfl, hf⟩
def JRow (w : World) (n : Nat) (lx ly : List Int) (e : Ending) (w' : World) : Prop := ∃ a c, e = .returned (.tuple #[.slice a (lx.length + ly.length) c, .int .i64 0]) ∧ At w' a ((lx ++ ly.map (· + (n : Int))).map iv) ∧ Fr No w w'
theorem order_join_ok (w : World) (x y : Gv) (sa : Option Addr) (sc : Nat) (da : Option Addr) (dc : Nat) (h : (joinV x y sa sc da dc).Ok w) (hs : Sml (joinV x y sa sc da dc)) (wx : x.g.Whole) (wy : y.g.Whole) (h1 : x.sp.length + y.sp.length ≤ 16) (h2 : x.du.length + y.du.length ≤ 64) :
    Calls Try.prog 47 #[.agg #[.slice sa (x.sp.length + y.sp.length) sc, .slice da (x.du.length + y.du.length) dc]] w (JRow w x.sp.length x.g.orderL y.g.orderL) := by
  have k1 := order_join w x y sa sc da dc h hs
  have g1 : x.g.st.length + y.g.st.length ≤ 16 := by rw [x.st_len, y.st_len]; exact h1
  have g2 : x.g.du.length + y.g.du.length ≤ 64 := by rw [x.du_len, y.du_len]; exact h2
  have k2 := orderL_beside wx wy g1 g2
  rw [x.st_len] at k2
  unfold JPost at k1
  rw [k2, (check_ok _).2 (beside_whole wx wy g1 g2)] at k1
  refine k1.mono ?_
  rintro e w' ⟨a, c, rfl, hat, hf⟩
  exact ⟨a, c, by simp, hat, hf⟩
theorem row_left {w : World} {g o n : Nat} {lx ly : List Int} (h : Row w g o ((lx ++ ly.map (· + (n : Int))).map iv)) {k : Nat} (hk : k < lx.length) : w.cell? ⟨g, o + k, none⟩ = some (.int .i64 lx[k]) :=
  h.get k (iv lx[k]) (by rw [List.getElem?_map, List.getElem?_append_left hk, List.getElem?_eq_getElem hk]; rfl)
theorem row_right {w : World} {g o n : Nat} {lx ly : List Int} (h : Row w g o ((lx ++ ly.map (· + (n : Int))).map iv)) {q : Nat} (hq : q < ly.length) : w.cell? ⟨g, o + (lx.length + q), none⟩ = some (.int .i64 (ly[q] + n)) :=
  h.get (lx.length + q) (iv (ly[q] + n)) (by rw [List.getElem?_map, List.getElem?_append_right (Nat.le_add_right _ _), Nat.add_sub_cancel_left, List.getElem?_map, List.getElem?_eq_getElem hq]; rfl)
end Go.Proofs.Ytljldkknopmfhaa
