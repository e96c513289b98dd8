/- Graphs: the program's Own. -/
import Derived.Test.YtljldkknopmfhaaGrM
import Derived.Deep.RegionLaw
import Derived.Laws.ResultCell
namespace Go.Proofs.Ytljldkknopmfhaa
open Go.RowKit

/-- A clone of ducts. -/
def DClonePost (w : World) (ds : List Dct) (e : Ending) (w' : World) : Prop :=
  ∃ a c, e = .returned (.slice a ds.length c) ∧ OwnSl w' 72 5 (.slice a ds.length c) ds.length (ds.flatMap Dct.cells) ∧ Fr No w w' ∧ ∀ b, (Value.slice a ds.length c).ownBlock = some b → w.heap.size ≤ b
theorem dc_one (ds : List Dct) : ∀ y ∈ ds.flatMap Dct.cells, y.oneCell' = true := by
  intro y hy
  obtain ⟨d, _, hd⟩ := List.mem_flatMap.1 hy
  revert hd
  simp [Dct.cells]
  rintro (rfl | rfl | rfl | rfl | rfl) <;> rfl
set_option maxRecDepth 100000 in
theorem dclone_any (a : Option Addr) (n c : Nat) (ds : List Dct) (w : World) (hn : n = ds.length) (ha : At w a (ds.flatMap Dct.cells)) (hl : ds.length ≤ 200) :
    Calls Try.prog 81 #[.slice a n c] w (DClonePost w ds) := by
  subst hn
  obtain ⟨j0, hj, jz0, jz1, jz2⟩ := info_parts duct_info
  cases a with
  | none =>
    have h0 : ds = [] := by
      rcases Nat.eq_zero_or_pos ds.length with h | h
      · exact List.eq_nil_of_length_eq_zero h
      · obtain ⟨g, off, e, _⟩ := ha (by rw [flat_length dc_len]; omega); cases e
    subst h0
    have he := fun W => Lib.run_eql_slice_nil (P := Try.prog) W 61 72 none ([] : List Dct).length c 0 0 Try.underlying61
    simp only [List.length_nil, Option.isNone_none] at he ⊢
    go_enter Try.func81, Try.ntmps81
    go_wp2
    go_ret
    exact ⟨none, 0, rfl, OwnSl.nil _ _ _, Fr.refl _ _, by simp [Value.ownBlock]⟩
  | some ad =>
    have he := fun W => Lib.run_eql_slice_nil (P := Try.prog) W 61 72 (some ad) ds.length c 0 0 Try.underlying61
    simp only [Option.isNone_some] at he
    go_enter Try.func81, Try.ntmps81
    go_wp2_with (at_builtin; refine wpList_append_sl rfl (.tmp 5) (.tmp 6) 61 61 rfl 72 j0 (.agg #[.int .i64 0, .int .i64 0, .int .i64 0, .int .i64 0, .int .i64 0]) 5 40 Try.underlying61 hj jz0 jz1 jz2 rfl (by decide) (.slice (some ⟨w.heap.size, 0, none⟩) 0 0) 0 [] rfl (own_empty w 72 5) _ ds.length (ds.flatMap Dct.cells) rfl (src_slice Try.underlying61 (flat_length dc_len ds) (ha.fr ((Fr.refl No _).alloc _) (fun _ _ _ _ _ _ x => x)) (dc_one ds)) (by omega) (by omega) ?_; intro v1 w1 hown1 hfr1 hblk1; obtain ⟨a1, c1, hv1, hat1, _⟩ := hown1.at; subst hv1)
    go_ret
    rw [Nat.zero_add, List.nil_append] at hown1
    rw [Nat.zero_add] at hblk1
    refine ⟨a1, c1, rfl, hown1, ((Fr.refl No w).alloc _).step hfr1 (fun i o hi x => ?_), fun b e => ?_⟩
    · have e' : some w.heap.size = some i := x
      injection e' with e'; omega
    · rcases hblk1 with h | h
      · rw [h] at e; have e' : some w.heap.size = some b := e; injection e' with e'; omega
      · rw [h] at e; injection e with e; simp at e; omega

/-- Parameters with bytes of their own. -/
structure PM (w : World) (W : World) (p : Sp) : Prop where
  a : OwnSl W 5 1 (.slice p.aA p.s.A.length p.cA) p.s.A.length (p.s.A.map bv)
  b : OwnSl W 5 1 (.slice p.aB p.s.B.length p.cB) p.s.B.length (p.s.B.map bv)
  na : ∀ q, (Value.slice p.aA p.s.A.length p.cA).ownBlock = some q → w.heap.size ≤ q
  nb : ∀ q, (Value.slice p.aB p.s.B.length p.cB).ownBlock = some q → w.heap.size ≤ q
  wf : (Lit.int .i64 p.s.k).wf = true ∧ (Lit.int .i64 p.s.n).wf = true
/-- The memory of the program's Own, when the stages of L have been copied. -/
structure OP (w : World) (x : Gv) (b3 : Nat) (vd : Value) (L : List Sp) (v : Value) (W : World) : Prop where
  box : W.heap[b3]? = some (.cells #[v, vd] 63 (0, 0))
  res : W.heap[w.heap.size + 1]? = some (.cells #[.slice none 0 0, .slice none 0 0] 63 (0, 0))
  own : OwnSl W 41 4 v L.length (L.flatMap Sp.cells)
  new : ∀ b, v.ownBlock = some b → w.heap.size ≤ b
  sp : ∀ p ∈ L, PM w W p
  du : OwnSl W 72 5 vd x.du.length (x.du.flatMap Dct.cells)
  nd : ∀ b, vd.ownBlock = some b → w.heap.size ≤ b
  fr : Fr No w W
  lo : w.heap.size + 1 < b3
theorem own_apart {w : World} {e1 e2 : TypeId} {s1 s2 n1 n2 : Nat} {v1 v2 : Value} {xs1 xs2 : List Value} (h1 : OwnSl w e1 s1 v1 n1 xs1) (h2 : OwnSl w e2 s2 v2 n2 xs2) (he : e1 ≠ e2) {b : Nat} (hb : v1.ownBlock = some b) : v2.ownBlock ≠ some b := by
  rcases h1.2 with ⟨hv, _⟩ | ⟨g, off, cap, cur, hv, hg, _⟩
  · rw [hv] at hb; cases hb
  · rw [hv] at hb; injection hb with hb; simp only at hb; subst hb
    exact own_ne h2 (fun e => he e.symm) hg
theorem PM.fr {w W W' : World} {p : Sp} {S : Nat → Nat → Prop} (h : PM w W p) (f : Fr S W W') (ha : ∀ b o, (Value.slice p.aA p.s.A.length p.cA).ownBlock = some b → ¬ S b o) (hb : ∀ b o, (Value.slice p.aB p.s.B.length p.cB).ownBlock = some b → ¬ S b o) : PM w W' p :=
  ⟨h.a.fr f ha, h.b.fr f hb, h.na, h.nb, h.wf⟩
theorem OP.keep {w W W' : World} {x : Gv} {b3 : Nat} {vd v : Value} {L : List Sp} (h : OP w x b3 vd L v W) (f : Fr No W W') : OP w x b3 vd L v W' :=
  ⟨(f.block _ (heap_lt h.box) (fun _ y => y)).trans h.box, (f.block _ (heap_lt h.res) (fun _ y => y)).trans h.res, h.own.fr f (fun _ _ _ y => y), h.new, fun p hp => (h.sp p hp).fr f (fun _ _ _ y => y) (fun _ _ _ y => y), h.du.fr f (fun _ _ _ y => y), h.nd, h.fr.trans f, h.lo⟩
/-- Behind the append. -/
theorem OP.put {w W W5 : World} {x : Gv} {b3 : Nat} {vd v v5 : Value} {L : List Sp} (h : OP w x b3 vd L v W) (p : Sp) (hp : PM w W p) (hown : OwnSl W5 41 4 v5 (L.length + 1) (L.flatMap Sp.cells ++ p.cells)) (hf : Fr (Blk v) W W5) (hb : v5.ownBlock = v.ownBlock ∨ v5.ownBlock = some W.heap.size) :
    OP w x b3 vd (L ++ [p]) v5 (W5.setCell ⟨b3, 0, none⟩ v5) ∧ W5.heap[b3]? = some (.cells #[v, vd] 63 (0, 0)) := by
  have hsz := h.fr.size
  have hbx : W5.heap[b3]? = some (.cells #[v, vd] 63 (0, 0)) := (hf.block _ (heap_lt h.box) (fun o e => own_ne h.own (by decide) h.box e)).trans h.box
  have hrs : W5.heap[w.heap.size + 1]? = some (.cells #[.slice none 0 0, .slice none 0 0] 63 (0, 0)) := (hf.block _ (heap_lt h.res) (fun o e => own_ne h.own (by decide) h.res e)).trans h.res
  have hdu : OwnSl W5 72 5 vd x.du.length (x.du.flatMap Dct.cells) := h.du.fr hf (fun b o e e2 => own_apart h.du h.own (by decide) e e2)
  have hsp : ∀ q, PM w W q → PM w W5 q := fun q hq => hq.fr hf (fun b o e e2 => own_apart hq.a h.own (by decide) e e2) (fun b o e e2 => own_apart hq.b h.own (by decide) e e2)
  have hfs := frSet W5 b3 0 v5
  have hsp2 : ∀ q, PM w W q → PM w (W5.setCell ⟨b3, 0, none⟩ v5) q := fun q hq => (hsp q hq).fr hfs (fun b o e e2 => own_ne (hsp q hq).a (by decide) hbx (by rw [e, e2.1])) (fun b o e e2 => own_ne (hsp q hq).b (by decide) hbx (by rw [e, e2.1]))
  refine ⟨⟨?_, ?_, ?_, fun b e => ?_, fun q hq => ?_, hdu.fr hfs (fun b o e e2 => own_ne hdu (by decide) hbx (by rw [e, e2.1])), h.nd, ?_, h.lo⟩, hbx⟩
  · rw [setCell_eq_setRow W5 _ 0 _ _ (0, 0) _ hbx, setRow_heap W5 _ _ _ _ _ hbx]; rfl
  · rw [hfs.block _ (heap_lt hrs) (fun o e => by have := e.1; have := h.lo; omega)]; exact hrs
  · rw [List.length_append, List.flatMap_append, show [p].flatMap Sp.cells = p.cells from by simp]
    exact hown.fr hfs (fun b o e e2 => own_ne hown (by decide) hbx (by rw [e, e2.1]))
  · rcases hb with h1 | h1
    · rw [h1] at e; exact h.new b e
    · rw [h1] at e; injection e with e; omega
  · rcases List.mem_append.1 hq with hq | hq
    · exact hsp2 q (h.sp q hq)
    · simp only [List.mem_singleton] at hq; subst hq; exact hsp2 q hp
  · exact (h.fr.step hf (fun b o hb' e => by have := h.new b e; omega)).step hfs (fun b o hb' e => by have := e.1; have := h.lo; omega)
/-- Behind the two clones of a round: the stage's variable holds them. -/
structure P6 (wr : World) (b5 : Nat) (k n : Int) (A B : List UInt8) (a : Option Addr) (c : Nat) (b : Option Addr) (d : Nat) (W : World) : Prop where
  hr : Fr No wr W
  blk : W.heap[b5]? = some (.cells #[.int .i64 k, .int .i64 n, .slice a A.length c, .slice b B.length d] 41 (0, 0))
  oa : OwnSl W 5 1 (.slice a A.length c) A.length (A.map bv)
  ob : OwnSl W 5 1 (.slice b B.length d) B.length (B.map bv)
theorem set2 {W : World} {b5 : Nat} {c0 c1 c2 c3 v : Value} (h : W.heap[b5]? = some (.cells #[c0, c1, c2, c3] 41 (0, 0))) : (W.setCell ⟨b5, 2, none⟩ v).heap[b5]? = some (.cells #[c0, c1, v, c3] 41 (0, 0)) := by
  rw [setCell_eq_setRow W _ 2 _ _ (0, 0) _ h, setRow_heap W _ _ _ _ _ h]; rfl
theorem set3 {W : World} {b5 : Nat} {c0 c1 c2 c3 v : Value} (h : W.heap[b5]? = some (.cells #[c0, c1, c2, c3] 41 (0, 0))) : (W.setCell ⟨b5, 3, none⟩ v).heap[b5]? = some (.cells #[c0, c1, c2, v] 41 (0, 0)) := by
  rw [setCell_eq_setRow W _ 3 _ _ (0, 0) _ h, setRow_heap W _ _ _ _ _ h]; rfl
theorem own_set {W : World} {b5 k : Nat} {c : Array Value} {v u : Value} {n : Nat} {xs : List Value} (h : OwnSl W 5 1 v n xs) (hb : W.heap[b5]? = some (.cells c 41 (0, 0))) : OwnSl (W.setCell ⟨b5, k, none⟩ u) 5 1 v n xs :=
  h.fr (frSet W b5 k u) (fun b o e e2 => own_ne h (by decide) hb (by rw [e, e2.1]))
theorem p6_late {wr wB : World} {b5 : Nat} {k n : Int} {A B : List UInt8} {a b : Option Addr} {c d : Nat} {u2 u3 : Value} (hr : Fr No wr wB) (h5 : wr.heap.size ≤ b5) (hb : wB.heap[b5]? = some (.cells #[.int .i64 k, .int .i64 n, u2, u3] 41 (0, 0)))
    (oa : OwnSl wB 5 1 (.slice a A.length c) A.length (A.map bv)) (ob : OwnSl wB 5 1 (.slice b B.length d) B.length (B.map bv)) : P6 wr b5 k n A B a c b d ((wB.setCell ⟨b5, 2, none⟩ (.slice a A.length c)).setCell ⟨b5, 3, none⟩ (.slice b B.length d)) :=
  ⟨(hr.step (frSet _ _ _ _) (fun q o hq e => by have := e.1; omega)).step (frSet _ _ _ _) (fun q o hq e => by have := e.1; omega), set3 (set2 hb), own_set (own_set oa hb) (set2 hb), own_set (own_set ob hb) (set2 hb)⟩
theorem p6_soon {wr wB : World} {b5 : Nat} {k n : Int} {A B : List UInt8} {a b : Option Addr} {c d : Nat} {u3 : Value} (hr : Fr No wr wB) (h5 : wr.heap.size ≤ b5) (hb : wB.heap[b5]? = some (.cells #[.int .i64 k, .int .i64 n, .slice a A.length c, u3] 41 (0, 0)))
    (oa : OwnSl wB 5 1 (.slice a A.length c) A.length (A.map bv)) (ob : OwnSl wB 5 1 (.slice b B.length d) B.length (B.map bv)) : P6 wr b5 k n A B a c b d (wB.setCell ⟨b5, 3, none⟩ (.slice b B.length d)) :=
  ⟨hr.step (frSet _ _ _ _) (fun q o hq e => by have := e.1; omega), set3 hb, own_set oa hb, own_set ob hb⟩
/-- What is one's own: its rows lie in blocks from lo on, each kind in blocks of its own type. -/
structure Mine (lo : Nat) (W : World) (y : Gv) : Prop where
  st : OwnSl W 41 4 (.slice y.sa y.sp.length y.sc) y.sp.length (y.sp.flatMap Sp.cells)
  du : OwnSl W 72 5 (.slice y.da y.du.length y.dc) y.du.length (y.du.flatMap Dct.cells)
  ns : ∀ b, (Value.slice y.sa y.sp.length y.sc).ownBlock = some b → lo ≤ b
  nd : ∀ b, (Value.slice y.da y.du.length y.dc).ownBlock = some b → lo ≤ b
  a : ∀ p ∈ y.sp, OwnSl W 5 1 (.slice p.aA p.s.A.length p.cA) p.s.A.length (p.s.A.map bv) ∧ ∀ q, (Value.slice p.aA p.s.A.length p.cA).ownBlock = some q → lo ≤ q
theorem own_at {W : World} {e : TypeId} {size n c : Nat} {a : Option Addr} {xs : List Value} (h : OwnSl W e size (.slice a n c) n xs) : At W a xs := by
  obtain ⟨a', c', hv, hat, _⟩ := h.at
  injection hv with h1; subst h1
  exact hat
theorem OP.done {w wr : World} {x : Gv} {b3 : Nat} {L : List Sp} {va vda : Option Addr} {vc vdc : Nat} (h : OP w x b3 (.slice vda x.du.length vdc) L (.slice va L.length vc) wr) (hx : x.Ok w) :
    ((wr.setCell ⟨w.heap.size + 1, 0, none⟩ (.slice va L.length vc)).setCell ⟨w.heap.size + 1, 1, none⟩ (.slice vda x.du.length vdc)).heap[w.heap.size + 1]? = some (.cells #[.slice va L.length vc, .slice vda x.du.length vdc] 63 (0, 0)) ∧
    Gv.Ok ((wr.setCell ⟨w.heap.size + 1, 0, none⟩ (.slice va L.length vc)).setCell ⟨w.heap.size + 1, 1, none⟩ (.slice vda x.du.length vdc)) ⟨L, x.du, va, vc, vda, vdc⟩ ∧
    Fr No w ((wr.setCell ⟨w.heap.size + 1, 0, none⟩ (.slice va L.length vc)).setCell ⟨w.heap.size + 1, 1, none⟩ (.slice vda x.du.length vdc)) ∧
    Mine w.heap.size ((wr.setCell ⟨w.heap.size + 1, 0, none⟩ (.slice va L.length vc)).setCell ⟨w.heap.size + 1, 1, none⟩ (.slice vda x.du.length vdc)) ⟨L, x.du, va, vc, vda, vdc⟩ := by
  have f1 := frSet wr (w.heap.size + 1) 0 (.slice va L.length vc)
  have r0 := h.res
  have r1 : (wr.setCell ⟨w.heap.size + 1, 0, none⟩ (.slice va L.length vc)).heap[w.heap.size + 1]? = some (.cells #[.slice va L.length vc, .slice none 0 0] 63 (0, 0)) := by
    rw [setCell_eq_setRow wr _ 0 _ _ (0, 0) _ r0, setRow_heap wr _ _ _ _ _ r0]; rfl
  have f2 := frSet (wr.setCell ⟨w.heap.size + 1, 0, none⟩ (.slice va L.length vc)) (w.heap.size + 1) 1 (.slice vda x.du.length vdc)
  have key : ∀ {e : TypeId} {size n : Nat} {u : Value} {xs : List Value}, e ≠ 63 → OwnSl wr e size u n xs → OwnSl ((wr.setCell ⟨w.heap.size + 1, 0, none⟩ (.slice va L.length vc)).setCell ⟨w.heap.size + 1, 1, none⟩ (.slice vda x.du.length vdc)) e size u n xs := fun he ho => by
    have h1 := ho.fr f1 (fun b o e e2 => own_ne ho he r0 (by rw [e, e2.1]))
    exact h1.fr f2 (fun b o e e2 => own_ne h1 he r1 (by rw [e, e2.1]))
  have hst := key (by decide) h.own
  have hdu := key (by decide) h.du
  refine ⟨?_, ⟨own_at hst, own_at hdu, fun p hp => ⟨own_at (key (by decide) (h.sp p hp).a), own_at (key (by decide) (h.sp p hp).b), (h.sp p hp).wf⟩, hx.dc⟩, (h.fr.step f1 (fun b o hb e => by have := e.1; omega)).step f2 (fun b o hb e => by have := e.1; omega), ⟨hst, hdu, h.new, h.nd, fun p hp => ⟨key (by decide) (h.sp p hp).a, (h.sp p hp).na⟩⟩⟩
  rw [setCell_eq_setRow _ _ 1 _ _ (0, 0) _ r1, setRow_heap _ _ _ _ _ _ r1]; rfl
def POwnGP (w : World) (x : Gv) (e : Ending) (w' : World) : Prop := ∃ y : Gv, e = .returned (.agg #[.slice y.sa y.sp.length y.sc, .slice y.da y.du.length y.dc]) ∧ y.g = x.g ∧ y.Ok w' ∧ Fr No w w' ∧ Mine w.heap.size w' y
set_option maxHeartbeats 8000000 in
set_option maxRecDepth 100000 in
theorem own_graph (w : World) (x : Gv) (hx : x.Ok w) (hsm : Sml x) : Calls Try.prog 54 #[.agg #[.slice x.sa x.sp.length x.sc, .slice x.da x.du.length x.dc]] w (POwnGP w x) := by
  obtain ⟨i0, hi, iz0, iz1, iz2⟩ := info_parts params_info
  have hsz : (Try.prog.info? 63).map (·.size) = some 2 := by kernel_rfl
  have HSZ := Lib.hid hsz
  have HX := Lib.hid hx; have HSM := Lib.hid hsm
  have hs200 := hsm.s
  have hd200 := hsm.d
  have hsi : (x.sp.length : Int) ≤ 200 := by omega
  have K1 := Lib.hid (((Fr.refl No w).alloc (.cells #[.slice x.sa x.sp.length x.sc, .slice x.da x.du.length x.dc] 63)).alloc (.cells #[.slice none 0 0, .slice none 0 0] 63))
  have HCD := Lib.hid (dclone_any x.da x.du.length x.dc x.du _ rfl (hx.fr K1.out).du hsm.d)
  have hr1 : ((w.alloc (.cells #[.slice x.sa x.sp.length x.sc, .slice x.da x.du.length x.dc] 63)).alloc (.cells #[.slice none 0 0, .slice none 0 0] 63)).heap[w.heap.size + 1]? = some (.cells #[.slice none 0 0, .slice none 0 0] 63 (0, 0)) := by
    have := heap_alloc_new (w.alloc (.cells #[.slice x.sa x.sp.length x.sc, .slice x.da x.du.length x.dc] 63)) (.cells #[.slice none 0 0, .slice none 0 0] 63)
    simpa using this
  have hg1 : ((w.alloc (.cells #[.slice x.sa x.sp.length x.sc, .slice x.da x.du.length x.dc] 63)).alloc (.cells #[.slice none 0 0, .slice none 0 0] 63)).heap[w.heap.size]? = some (.cells #[.slice x.sa x.sp.length x.sc, .slice x.da x.du.length x.dc] 63 (0, 0)) := box_block ((Fr.refl No _).alloc _)
  have HR1 := Lib.hid hr1; have HG1 := Lib.hid hg1
  clear hx hsm hsz hr1 hg1
  go_enter Try.func54, Try.ntmps54
  go_wp2_with (go_at_call 81; refine HCD.out.mono ?_; rintro e w2 ⟨vda, vdc, rfl, hown2, hf2, hn2⟩
               have HOD := Lib.hid hown2; have HF2 := Lib.hid (K1.out.trans hf2); have HND := Lib.hid hn2
               have hb2 := (hf2.block _ (heap_lt HR1.out) (fun _ y => y)).trans HR1.out
               have HR2 := Lib.hid hb2
               have c0 := cell_block (((hf2.alloc (.cells #[.slice none 0 0, .slice vda x.du.length vdc] 63)).block _ (heap_lt HG1.out) (fun _ y => y)).trans HG1.out) 0
               clear hown2 hf2 hn2 hb2)
  have hop : OP w x w2.heap.size (.slice vda x.du.length vdc) [] (.slice none 0 0) (w2.alloc (.cells #[.slice none 0 0, .slice vda x.du.length vdc] 63)) :=
    ⟨heap_alloc_new w2 _, (((Fr.refl No w2).alloc _).block _ (heap_lt HR2.out) (fun _ y => y)).trans HR2.out, OwnSl.nil _ _ _, by simp [Value.ownBlock], by simp, HOD.out.fr ((Fr.refl No w2).alloc _) (fun _ _ _ y => y), fun b e => by have := HND.out b e; simp at this; omega, HF2.out.alloc _, heap_lt HR2.out⟩
  have HP := Lib.hid hop
  clear hop c0
  generalize hb3 : w2.heap.size = b3 at *
  generalize w2.alloc (.cells #[.slice none 0 0, .slice vda x.du.length vdc] 63) = w3 at *
  clear hb3
  go_loopw [13] (fun i wr => ∃ k : Nat, k ≤ x.sp.length ∧ i = .int .i64 k ∧ Hid (∃ L v, OP w x b3 (.slice vda x.du.length vdc) L v wr ∧ L.length = k ∧ L.map Sp.s = (x.sp.take k).map Sp.s)) (fun i _ => x.sp.length - (intOf i).toNat)
  case atStart => exact ⟨0, Nat.zero_le _, rfl, Lib.hid ⟨[], _, HP.out, rfl, rfl⟩⟩
  case round =>
    obtain ⟨k, hk, rfl, HK⟩ := hrel
    clear HP
    obtain ⟨L, v, hO, rfl, hLm⟩ := HK.out
    have HO := Lib.hid hO; have HLM := Lib.hid hLm
    obtain ⟨va, vc, hv, -, -⟩ := hO.own.at
    subst hv
    clear hO hLm HK
    by_cases hlt : L.length < x.sp.length
    · have hki : (L.length : Int) < x.sp.length := by omega
      obtain ⟨gs, os, hsa, hsr⟩ := HX.out.st.flat sp_len (by decide) (by omega)
      have hmem := List.getElem_mem hlt
      obtain ⟨g0, g1, g2, g3⟩ := sp_cells (hsr.fr HO.out.fr (fun _ _ y => y)) hlt
      have HCA := Lib.hid (fun (W : World) (h : Fr No w W) => clone_any x.sp[L.length].aA x.sp[L.length].s.A.length x.sp[L.length].cA x.sp[L.length].s.A W rfl ((HX.out.sp _ hmem).fr h).1 (by have := (HSM.out.b _ hmem).1; omega))
      have HCB := Lib.hid (fun (W : World) (h : Fr No w W) => clone_any x.sp[L.length].aB x.sp[L.length].s.B.length x.sp[L.length].cB x.sp[L.length].s.B W rfl ((HX.out.sp _ hmem).fr h).2.1 (by have := (HSM.out.b _ hmem).2; omega))
      have HTK := Lib.hid (show (x.sp.take (L.length + 1)).map Sp.s = (x.sp.take L.length).map Sp.s ++ [(x.sp[L.length]).s] from by rw [List.take_succ_eq_append_getElem hlt, List.map_append]; rfl)
      have HWF := Lib.hid (HX.out.sp _ hmem).2.2
      clear hmem hsr
      generalize x.sp[L.length] = p at *
      obtain ⟨⟨pk, pn, pA, pB⟩, aA, cA, aB, cB⟩ := p
      dsimp only at *
      go_wp2_with fail
      have hb4 : (wr.alloc (.cells #[.int .i64 pk, .int .i64 pn, .slice aA pA.length cA, .slice aB pB.length cB] 41)).heap[wr.heap.size]? = some (.cells #[.int .i64 pk, .int .i64 pn, .slice aA pA.length cA, .slice aB pB.length cB] 41 (0, 0)) := heap_alloc_new wr _
      have hr4 := (Fr.refl No wr).alloc (.cells #[.int .i64 pk, .int .i64 pn, .slice aA pA.length cA, .slice aB pB.length cB] 41)
      have hs4 : wr.heap.size < (wr.alloc (.cells #[.int .i64 pk, .int .i64 pn, .slice aA pA.length cA, .slice aB pB.length cB] 41)).heap.size := by simp
      have hl5 : wr.heap.size ≤ wr.heap.size := Nat.le_refl _
      generalize wr.alloc (.cells #[.int .i64 pk, .int .i64 pn, .slice aA pA.length cA, .slice aB pB.length cB] 41) = w4 at *
      generalize hb5 : wr.heap.size = b5 at hb4 hs4 ⊢
      have HL5 := Lib.hid (show wr.heap.size ≤ b5 from by omega)
      have HNE := Lib.hid (show w.heap.size ≤ b5 from by have := HO.out.fr.size; omega)
      clear hl5 hb5 g0 g1 g2 g3
      have z2 := cell_block hb4 2
      have z3 := cell_block hb4 3
      have HB4 := Lib.hid hb4; have HR4 := Lib.hid hr4; have HS4 := Lib.hid hs4
      clear hb4 hr4 hs4
      go_region_law (first
        | (go_simp; go_at_call_of 58 (Value.slice aA pA.length cA); refine (HCA.out _ ((HO.out.fr.trans HR4.out).trans (Fr.refl No w4).drew)).mono ?_; rintro e wA ⟨a2, c2, rfl, hownA, hfA, hnA⟩
           have HRA := Lib.hid (HR4.out.trans ((Fr.refl No w4).drew.trans hfA))
           have HBA := Lib.hid ((((Fr.refl No w4).drew.trans hfA).block _ HS4.out (fun _ y => y)).trans HB4.out)
           have HOA := Lib.hid hownA
           have HNA := Lib.hid (fun q (e : (Value.slice a2 pA.length c2).ownBlock = some q) => show w.heap.size ≤ q from by have := hnA q e; (have h3 : (w4.drew).heap.size = w4.heap.size := rfl); have := HNE.out; have := HS4.out; omega)
           have HBA2 := Lib.hid (set2 (v := .slice a2 pA.length c2) HBA.out)
           have HRA2 := Lib.hid (HRA.out.step (frSet wA b5 2 (.slice a2 pA.length c2)) (fun q o hq e => by have := e.1; have := HL5.out; omega))
           have HOA2 := Lib.hid (own_set (k := 2) (u := .slice a2 pA.length c2) HOA.out HBA.out)
           clear z2 z3
           have z2 := cell_block HBA.out 2
           have z3 := cell_block HBA.out 3
           have z2f := frozen_block HBA.out 2
           clear hownA hfA hnA)
        | (go_simp; go_at_call_of 58 (Value.slice aB pB.length cB)
           refine (HCB.out _ (by first | exact HO.out.fr.trans HRA.out | exact HO.out.fr.trans HRA2.out)).mono ?_
           rintro e wB ⟨b2, d2, rfl, hownB, hfB, hnB⟩
           have HOB := Lib.hid hownB
           have HNB := Lib.hid (fun q (e : (Value.slice b2 pB.length d2).ownBlock = some q) => show w.heap.size ≤ q from by have h1 := hnB q e; have := HNE.out; first | (have := heap_lt HBA.out; omega) | (have := heap_lt HBA2.out; omega))
           first
             | (have HRB := Lib.hid (HRA.out.trans hfB)
                have HBB := Lib.hid ((hfB.block _ (heap_lt HBA.out) (fun _ y => y)).trans HBA.out)
                have HAB := Lib.hid (HOA.out.fr hfB (fun _ _ _ y => y)))
             | (have HRB := Lib.hid (HRA2.out.trans hfB)
                have HBB := Lib.hid ((hfB.block _ (heap_lt HBA2.out) (fun _ y => y)).trans HBA2.out)
                have HAB := Lib.hid (HOA2.out.fr hfB (fun _ _ _ y => y)))
           clear z2 z3 z2f
           have z2 := cell_block HBB.out 2
           have z3 := cell_block HBB.out 3
           have z2f := frozen_block HBB.out 2
           have z3f := frozen_block HBB.out 3
           clear hownB hfB hnB))
      all_goals (
        have HP6 := Lib.hid (p6_late (k := pk) (n := pn) HRB.out HL5.out HBB.out HAB.out HOB.out)
        clear z2 z3 z2f z3f
        generalize (wB.setCell ⟨b5, 2, none⟩ (.slice a2 pA.length c2)).setCell ⟨b5, 3, none⟩ (.slice b2 pB.length d2) = w6 at *
        have HO6 := Lib.hid (HO.out.keep HP6.out.hr)
        have HO6a := Lib.hid (HO6.out.keep ((Fr.refl No w6).alloc (.cells #[.int .i64 pk, .int .i64 pn, .slice a2 pA.length c2, .slice b2 pB.length d2] 41)))
        have y0 : w6.cell? ⟨b5, 0, none⟩ = some (.int .i64 pk) := cell_block HP6.out.blk 0
        have y1 : w6.cell? ⟨b5, 1, none⟩ = some (.int .i64 pn) := cell_block HP6.out.blk 1
        have y2 : w6.cell? ⟨b5, 2, none⟩ = some (.slice a2 pA.length c2) := cell_block HP6.out.blk 2
        have y3 : w6.cell? ⟨b5, 3, none⟩ = some (.slice b2 pB.length d2) := cell_block HP6.out.blk 3
        have cb : w6.cell? ⟨b3, 0, none⟩ = some (.slice va L.length vc) := cell_block HO6.out.box 0
        have HSR := Lib.hid (show Src Try.prog (w6.alloc (.cells #[.int .i64 pk, .int .i64 pn, .slice a2 pA.length c2, .slice b2 pB.length d2] 41)) 4 60 (.slice (some ⟨w6.heap.size, 0, none⟩) 1 1) 1 (Sp.cells ⟨⟨pk, pn, pA, pB⟩, a2, c2, b2, d2⟩) from
          src_slice Try.underlying60 rfl (fun _ => ⟨w6.heap.size, 0, rfl, row_at w6 #[.int .i64 pk, .int .i64 pn, .slice a2 pA.length c2, .slice b2 pB.length d2] _ rfl _ rfl 41 (0, 0)⟩) (by simp [Sp.cells, Value.oneCell']))
        have HB1 := Lib.hid (show L.length + 1 ≤ 1000000000000 from by omega)
        have HB2 := Lib.hid (show (L.length + 1) * 64 ≤ 140737488355328 from by omega)
        rw [← hsa]
        clear hsa)
      all_goals go_wp2_with (
        at_builtin
        refine wpList_append_sl (size := 4) (bytes := 64) (v := .slice va L.length vc) (n := L.length) (xs := L.flatMap Sp.cells) (m := 1) (news := Sp.cells ⟨⟨pk, pn, pA, pB⟩, a2, c2, b2, d2⟩) (xv := .slice (some ⟨w6.heap.size, 0, none⟩) 1 1) (z := .agg #[.int .i64 0, .int .i64 0, .slice none 0 0, .slice none 0 0]) rfl (.tmp 26) (.tmp 28) 60 60 rfl 41 i0 (ht := Try.underlying60) (hi := hi) (hz := iz0) (hsize := iz1) (hby := iz2) (hzs := rfl) (hsz := by decide) (hs := rfl) (hown := HO6a.out.own) (hxv := rfl) (hx := HSR.out) (hb := HB1.out) (hbytes := HB2.out) (h := ?_)
        intro v7 w7 hown7 hfr7 hblk7
        obtain ⟨hop7, hbx7⟩ := HO6a.out.put ⟨⟨pk, pn, pA, pB⟩, a2, c2, b2, d2⟩ ⟨HP6.out.oa.fr ((Fr.refl No w6).alloc _) (fun _ _ _ y => y), HP6.out.ob.fr ((Fr.refl No w6).alloc _) (fun _ _ _ y => y), HNA.out, HNB.out, HWF.out⟩ hown7 hfr7 hblk7
        have HOP7 := Lib.hid hop7
        obtain ⟨va7, vc7, hv7, -, -⟩ := hown7.at
        subst hv7
        have cb7 := cell_block hbx7 0
        have cf7 := frozen_block hbx7 0
        clear hown7 hfr7 hblk7 hop7 hbx7)
      all_goals exact ⟨⟨L.length + 1, by omega, by go_num, Lib.hid ⟨L ++ [⟨⟨pk, pn, pA, pB⟩, a2, c2, b2, d2⟩], _, HOP7.out, by simp, by rw [List.map_append, HLM.out, HTK.out]; rfl⟩⟩, by simp [intOf]; omega⟩
    · have hLx : L.length = x.sp.length := by omega
      have hLm : L.map Sp.s = x.sp.map Sp.s := by rw [HLM.out, hLx, List.take_length]
      have HL2 := Lib.hid hLm
      clear hLm hLx hk
      have cb : wr.cell? ⟨b3, 0, none⟩ = some (.slice va L.length vc) := cell_block HO.out.box 0
      have cb1 : wr.cell? ⟨b3, 1, none⟩ = some (.slice vda x.du.length vdc) := cell_block HO.out.box 1
      have cr := cell_block HO.out.res 0
      have cr1 := cell_block HO.out.res 1
      have crf := frozen_block HO.out.res 0
      have crf1 := frozen_block HO.out.res 1
      go_wp2_with fail
      obtain ⟨hres, hok, hfr, hmine⟩ := HO.out.done HX.out
      refine bodyPost_ret (v := .agg #[.slice va L.length vc, .slice vda x.du.length vdc]) (results_cell_row (p := 2) (ty := 63) (by kernel_rfl) _ _ (w.heap.size + 1) 63 #[.slice va L.length vc, .slice vda x.du.length vdc] (0, 0) _ rfl hres Try.underlying63 rfl HSZ.out) rfl ⟨⟨L, x.du, va, vc, vda, vdc⟩, rfl, ?_, hok, hfr, hmine⟩
      unfold Gv.g; dsimp only; rw [HL2.out]
end Go.Proofs.Ytljldkknopmfhaa
