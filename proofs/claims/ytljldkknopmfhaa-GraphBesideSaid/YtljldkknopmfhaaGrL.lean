/- Graphs: laid: the ducts at all ports. -/
import Derived.Test.YtljldkknopmfhaaGrF
import Derived.Test.YtljldkknopmfhaaGrS
import Derived.Deep.WholeRow
import Derived.Deep.RegionHeld3
namespace Go.Proofs.Ytljldkknopmfhaa
open Go.RowKit

theorem results_cell3 {fn : Func} {p u v : Tmp} {ty : TypeId} (h : fn.results = #[.cell p ty, .tmp u, .tmp v]) (tmps : Array Value) (P : Program) (w : World) (b : Nat) (cs : Array Value) (hp : tmps.getD p undef = .pointer (some ⟨b, 0, none⟩))
    (hl : (loadVar ty ⟨b, 0, none⟩).run P w = .ok (.agg cs) w) : (results fn tmps).run P w = .ok (.tuple #[.agg cs, tmps.getD u undef, tmps.getD v undef]) w := by
  have ha : (asAddr (.pointer (some ⟨b, 0, none⟩))).run P w = .ok ⟨b, 0, none⟩ w := rfl
  rw [← hp] at ha
  simp only [results, h]
  simp only [Array.getD_eq_getD_getElem?] at ha ⊢
  simp [Sem.run_bind, Result.andThen, ha, hl]
theorem ports_load (W : World) (b : Nat) (f : Nat → Value) (hb : W.heap[b]? = some (.cells (tabC 32 f) 102 (0, 0))) : (loadVar 102 ⟨b, 0, none⟩).run Try.prog W = .ok (.agg (tabC 32 f)) W :=
  run_loadVar_row W b 102 102 (tabC 32 f) (0, 0) _ hb Try.underlying102 rfl (by rw [tabC_size]; kernel_rfl)
/-- A row that is stored as it is. -/
theorem frSetRow (w : World) (b : Nat) (cs : Array Value) : Fr (fun x _ => x = b) w (w.setRow b cs) := (Fr.refl _ w).setRow b cs fun _ _ => rfl
theorem PT.same {w : World} {lo bp : Nat} {f : Nat → Value} {T : Nat → List Int} (h : PT w lo bp f T) : PT (w.setRow bp (tabC 32 f)) lo bp f T :=
  ⟨setRow_heap w bp _ _ _ _ h.box, fun s hs => (h.row s hs).fr (frSetRow w bp _) fun _ hb _ e => h.nebp types_differ hs hb e, h.ne⟩
/-- What laid answers. -/
def LaidPost (w : World) (x : Gv) (e : Ending) (w' : World) : Prop :=
  ∃ f, e = .returned (.tuple #[.agg (tabC 32 f), .int .i64 (x.g.laidAt.getD (0, 0)).1, .int .i64 (x.g.laidAt.getD (0, 0)).2]) ∧ Fr No w w' ∧ (∀ k, k < 32 → (f k).oneCell' = true) ∧
    (x.g.laidAt = none → ∀ s, s < 32 → Rw w' w.heap.size (f s) (x.g.tab x.sp.length x.du.length s))
theorem laid_bad {w W : World} {x : Gv} {f : Nat → Value} {T : Nat → List Int} {bp : Nat} {at_ er : Int} (h : PT W w.heap.size bp f T) (hf : Fr No w W) (hl : x.g.laidAt = some (at_, er)) (hbp : w.heap.size ≤ bp) :
    LaidPost w x (.returned (.tuple #[.agg (tabC 32 f), .int .i64 at_, .int .i64 er])) (W.setRow bp (tabC 32 f)) :=
  ⟨f, by rw [hl]; rfl, hf.step (frSetRow W bp _) (fun b o hb e => by omega), fun k hk => (h.row k hk).one, fun e => by rw [hl] at e; cases e⟩
/-- The memory of laid behind its head. -/
structure LH (w : World) (x : Gv) (W : World) : Prop where
  pt : PT W w.heap.size (w.heap.size + 1) (fun _ => .slice none 0 0) (fun _ => [])
  gb : W.heap[w.heap.size]? = some (.cells #[.slice x.sa x.sp.length x.sc, .slice x.da x.du.length x.dc] 63 (0, 0))
  fr : Fr No w W
theorem lh_start (w : World) (x : Gv) : LH w x ((w.alloc (.cells #[.slice x.sa x.sp.length x.sc, .slice x.da x.du.length x.dc] 63)).alloc (.cells (tabC 32 fun _ => .slice none 0 0) 102)) :=
  ⟨pt_start (by have := heap_alloc_new (w.alloc (.cells #[.slice x.sa x.sp.length x.sc, .slice x.da x.du.length x.dc] 63)) (.cells (tabC 32 fun _ => .slice none 0 0) 102); simpa using this),
    box_block ((Fr.refl No _).alloc _), ((Fr.refl No w).alloc _).alloc _⟩
/-- .. when k stages have been gone through. -/
structure L1 (w : World) (x : Gv) (k : Nat) (f : Nat → Value) (W : World) : Prop where
  pt : PT W w.heap.size (w.heap.size + 1) f (fun s => x.g.tab k 0 s)
  gb : W.heap[w.heap.size]? = some (.cells #[.slice x.sa x.sp.length x.sc, .slice x.da x.du.length x.dc] 63 (0, 0))
  fr : Fr No w W
  ok : ∀ j, j < k → x.g.stBad j = 0
theorem LH.l1 {w W : World} {x : Gv} (h : LH w x W) : L1 w x 0 (fun _ => .slice none 0 0) W := ⟨h.pt.congr fun s _ => tab_start x.g s, h.gb, h.fr, fun j hj => absurd hj (by omega)⟩
theorem L1.keep {w W W' : World} {x : Gv} {k : Nat} {f : Nat → Value} (h : L1 w x k f W) (r : Fr No W W') : L1 w x k f W' :=
  ⟨h.pt.fr r, (r.block _ (heap_lt h.gb) (fun _ y => y)).trans h.gb, h.fr.trans r, h.ok⟩
/-- A stage's two rows are laid. -/
theorem L1.next {w W W3 W4 : World} {x : Gv} {k : Nat} {f : Nat → Value} (h : L1 w x k f W) (hk : k < 16) {b1 b2 i o : Nat} (hb1 : W.heap.size ≤ b1) (hh1 : W3.heap[b1]? = some (.cells ((List.replicate i (-1 : Int)).map iv).toArray 3 (0, 0))) (f3 : Fr No W W3)
    (hb2 : W3.heap.size ≤ b2) (hh2 : W4.heap[b2]? = some (.cells ((List.replicate o (-1 : Int)).map iv).toArray 3 (0, 0))) (f4 : Fr No W3 W4) (hi : (x.g.s k).ins.toNat = i) (ho : (x.g.s k).outs.toNat = o) (hok : x.g.stBad k = 0) :
    L1 w x (k + 1) (fun j => if j = 16 + k then .slice (some ⟨b2, 0, none⟩) o o else if j = k then .slice (some ⟨b1, 0, none⟩) i i else f j)
      ((W4.setCell ⟨w.heap.size + 1, k, none⟩ (.slice (some ⟨b1, 0, none⟩) i i)).setCell ⟨w.heap.size + 1, 16 + k, none⟩ (.slice (some ⟨b2, 0, none⟩) o o)) := by
  have f34 := f3.trans f4
  have hlt1 := heap_lt hh1
  have hsz3 := f3.size
  have hw := h.fr.size
  obtain ⟨n1, m1⟩ := h.pt.far hb1
  obtain ⟨n2, m2⟩ := h.pt.far (b := b2) (by omega)
  have p1 := (h.pt.fr f34).put (s := k) (b := b1) (xs := List.replicate i (-1)) (by omega) n1 m1 ((f4.block b1 hlt1 (fun _ y => y)).trans hh1) (.slice (some ⟨b1, 0, none⟩) i i) (by simp)
  have hfs := frSet W4 (w.heap.size + 1) k (.slice (some ⟨b1, 0, none⟩) i i)
  have p2 := p1.put (s := 16 + k) (b := b2) (xs := List.replicate o (-1)) (by omega) n2 (fun t ht => by
    split
    · intro e; injection e with e; simp only at e; omega
    · exact m2 t ht) ((hfs.block b2 (heap_lt hh2) (fun _ e => n2 e.1)).trans hh2) (.slice (some ⟨b2, 0, none⟩) o o) (by simp)
  have hfs2 := frSet (W4.setCell ⟨w.heap.size + 1, k, none⟩ (.slice (some ⟨b1, 0, none⟩) i i)) (w.heap.size + 1) (16 + k) (.slice (some ⟨b2, 0, none⟩) o o)
  have hg := heap_lt h.gb
  refine ⟨p2.congr fun s hs => ?_, ?_, ?_, fun j hj => ?_⟩
  · rw [tab_stage hk hs, hi, ho]
  · rw [hfs2.block _ (by have := f34.size; have := hfs.size; omega) (fun _ e => by have := e.1; omega), hfs.block _ (by have := f34.size; omega) (fun _ e => by have := e.1; omega), f34.block _ hg (fun _ y => y)]
    exact h.gb
  · exact ((h.fr.trans f34).step hfs (fun b _ hb e => by have := e.1; omega)).step hfs2 (fun b _ hb e => by have := e.1; omega)
  · by_cases e : j = k
    · subst e; exact hok
    · exact h.ok j (by omega)
/-- .. and some ducts. -/
structure L2 (w : World) (x : Gv) (f : Nat → Value) (T : Nat → List Int) (W : World) : Prop where
  pt : PT W w.heap.size (w.heap.size + 1) f T
  gb : W.heap[w.heap.size]? = some (.cells #[.slice x.sa x.sp.length x.sc, .slice x.da x.du.length x.dc] 63 (0, 0))
  fr : Fr No w W
theorem L2.keep {w W W' : World} {x : Gv} {f : Nat → Value} {T : Nat → List Int} (h : L2 w x f T W) (r : Fr No W W') : L2 w x f T W' :=
  ⟨h.pt.fr r, (r.block _ (heap_lt h.gb) (fun _ y => y)).trans h.gb, h.fr.trans r⟩
theorem L1.l2 {w W : World} {x : Gv} {f : Nat → Value} (h : L1 w x x.sp.length f W) : L2 w x f (fun s => x.g.tab x.sp.length 0 s) W := ⟨h.pt, h.gb, h.fr⟩
theorem L2.set {w W : World} {x : Gv} {f : Nat → Value} {T : Nat → List Int} (h : L2 w x f T W) {s b : Nat} (hs : s < 32) (hv : (f s).ownBlock = some b) (o : Nat) (q : Int) :
    L2 w x f (fun t => if t = s then (T s).set o q else T t) (W.setCell ⟨b, o, none⟩ (iv q)) := by
  have hfs := frSet W b o (iv q)
  obtain ⟨hlo, hlt, cs, hcs⟩ := (h.pt.row s hs).lt hv
  refine ⟨h.pt.set hs hv q, ?_, h.fr.step hfs (fun b' _ hb e => by have := e.1; omega)⟩
  refine (hfs.block _ (heap_lt h.gb) fun o' e => ?_).trans h.gb
  have e1 := e.1
  rw [← e1, h.gb] at hcs
  injection hcs with hcs; injection hcs with _ hcs
  exact absurd hcs (by decide)
theorem L2.congr {w W : World} {x : Gv} {f : Nat → Value} {T T' : Nat → List Int} (h : L2 w x f T W) (e : ∀ s, s < 32 → T' s = T s) : L2 w x f T' W := ⟨h.pt.congr e, h.gb, h.fr⟩
/-- A box of another kind stays. -/
theorem L2.box {w W : World} {x : Gv} {f : Nat → Value} {T : Nat → List Int} (h : L2 w x f T W) {s b : Nat} (hs : s < 32) (hv : (f s).ownBlock = some b) (o : Nat) (q : Int) {bd : Nat} {cs : Array Value} (hb : W.heap[bd]? = some (.cells cs 72 (0, 0))) :
    (W.setCell ⟨b, o, none⟩ (iv q)).heap[bd]? = some (.cells cs 72 (0, 0)) := by
  refine ((frSet W b o (iv q)).block _ (heap_lt hb) fun o' e => ?_).trans hb
  have e1 := e.1
  obtain ⟨_, _, cs', hcs⟩ := (h.pt.row s hs).lt hv
  rw [← e1, hb] at hcs
  injection hcs with hcs; injection hcs with _ hcs
  exact absurd hcs (by decide)
/-- What a duct finds, with the row that a port of its stage has. -/
theorem L2.row {w W : World} {x : Gv} {f : Nat → Value} {T : Nat → List Int} (h : L2 w x f T W) {s : Nat} (hs : s < 32) (hp : 0 < (T s).length) : ∃ b, f s = .slice (some ⟨b, 0, none⟩) (T s).length (T s).length ∧ W.heap[b]? = some (.cells ((T s).map iv).toArray 3 (0, 0)) := by
  rcases h.pt.row s hs with ⟨_, e⟩ | ⟨b, e1, _, e2⟩
  · rw [e] at hp; simp at hp
  · exact ⟨b, e1, e2⟩
theorem laid_good {w W : World} {x : Gv} {f : Nat → Value} (h : L2 w x f (fun s => x.g.tab x.sp.length x.du.length s) W) (hl : x.g.laidAt = none) :
    LaidPost w x (.returned (.tuple #[.agg (tabC 32 f), .int .i64 0, .int .i64 0])) (W.setRow (w.heap.size + 1) (tabC 32 f)) :=
  ⟨f, by rw [hl]; rfl, h.fr.step (frSetRow W _ _) (fun b o hb e => by omega), fun k hk => (h.pt.row k hk).one, fun _ => h.pt.same.row⟩
theorem tell_same {f : Nat} {args : Array Value} {w : World} {b : Bool} (h : Calls Try.prog f args w (TellB w b)) : Calls Try.prog f args w fun e w' => e = .returned (.bool b) ∧ w' = w := h.mono fun _ _ ⟨h1, h2⟩ => ⟨h1, h2.symm⟩
theorem portsz (f : Nat → Value) : (Try.prog.info? 102).map (·.size) = some (tabC 32 f).size := by rw [tabC_size]; kernel_rfl
set_option maxHeartbeats 8000000 in
set_option maxRecDepth 100000 in
theorem laid_any (w : World) (x : Gv) (hx : x.Ok w) (hsm : Sml x) : Calls Try.prog 95 #[.agg #[.slice x.sa x.sp.length x.sc, .slice x.da x.du.length x.dc]] w (LaidPost w x) := by
  have HS := Lib.hid (lh_start w x)
  rw [show tabC 32 (fun _ => Value.slice none 0 0) = (#[.slice none 0 0, .slice none 0 0, .slice none 0 0, .slice none 0 0, .slice none 0 0, .slice none 0 0, .slice none 0 0, .slice none 0 0, .slice none 0 0, .slice none 0 0, .slice none 0 0, .slice none 0 0, .slice none 0 0, .slice none 0 0, .slice none 0 0, .slice none 0 0, .slice none 0 0, .slice none 0 0, .slice none 0 0, .slice none 0 0, .slice none 0 0, .slice none 0 0, .slice none 0 0, .slice none 0 0, .slice none 0 0, .slice none 0 0, .slice none 0 0, .slice none 0 0, .slice none 0 0, .slice none 0 0, .slice none 0 0, .slice none 0 0] : Array Value) from rfl] at HS
  obtain ⟨w1, hw1⟩ : ∃ w1, w1 = ((w.alloc (.cells #[.slice x.sa x.sp.length x.sc, .slice x.da x.du.length x.dc] 63)).alloc (.cells (#[.slice none 0 0, .slice none 0 0, .slice none 0 0, .slice none 0 0, .slice none 0 0, .slice none 0 0, .slice none 0 0, .slice none 0 0, .slice none 0 0, .slice none 0 0, .slice none 0 0, .slice none 0 0, .slice none 0 0, .slice none 0 0, .slice none 0 0, .slice none 0 0, .slice none 0 0, .slice none 0 0, .slice none 0 0, .slice none 0 0, .slice none 0 0, .slice none 0 0, .slice none 0 0, .slice none 0 0, .slice none 0 0, .slice none 0 0, .slice none 0 0, .slice none 0 0, .slice none 0 0, .slice none 0 0, .slice none 0 0, .slice none 0 0] : Array Value) 102)) := ⟨_, rfl⟩
  rw [← hw1] at HS
  by_cases h1 : 16 < x.sp.length
  · have hla := Lib.hid (laidAt_many (g := x.g) (.inl (by rw [x.st_len]; exact h1)))
    have h1i : (16 : Int) < x.sp.length := by omega
    go_enter Try.func95, Try.ntmps95
    go_upto_region 1 with fail
    rw [← hw1]
    clear hw1
    have c0 := cell_block HS.out.gb 0
    have HB := Lib.hid (HS.out.pt).box
    have HZC := Lib.hid (show (Try.prog.info? 102).map (·.size) = some (tabC 32 (fun _ => Value.slice none 0 0)).size from portsz _)
    have H1C := Lib.hid (show (tabC 32 (fun _ => Value.slice none 0 0)).all (·.oneCell') = true from tabC_all fun k hk => ((HS.out.pt).row k hk).one)
    have HE := Lib.hid (laid_bad (HS.out.pt) (HS.out.fr) hla.out (Nat.le_add_right _ 1))
    have HL := Lib.hid (ports_load _ _ _ (HS.out.pt).same.box)
    generalize tabC 32 (fun _ => Value.slice none 0 0) = C at *
    go_wp2_with (first
      | (refine wpList_load_row rfl 102 _ rfl (w.heap.size + 1) rfl 102 C (0, 0) _ HB.out Try.underlying102 rfl HZC.out ?_)
      | (refine wpList_store_row rfl 102 _ _ rfl (w.heap.size + 1) C rfl rfl 102 C HB.out HZC.out rfl H1C.out ?_))
    exact bodyPost_ret (v := .tuple #[.agg C, .int .i64 0, .int .i64 17]) ((results_cell3 (p := 2) (u := 3) (v := 4) (ty := 102) (by kernel_rfl) _ _ _ (w.heap.size + 1) C rfl HL.out).trans rfl) rfl HE.out
  by_cases h2 : 64 < x.du.length
  · have hla := Lib.hid (laidAt_many (g := x.g) (.inr (by rw [x.du_len]; exact h2)))
    have h1i : ¬ (16 : Int) < x.sp.length := by omega
    have h2i : (64 : Int) < x.du.length := by omega
    go_enter Try.func95, Try.ntmps95
    go_upto_region 1 with fail
    rw [← hw1]
    clear hw1
    have c0 := cell_block HS.out.gb 0
    have c1 := cell_block HS.out.gb 1
    have HB := Lib.hid (HS.out.pt).box
    have HZC := Lib.hid (show (Try.prog.info? 102).map (·.size) = some (tabC 32 (fun _ => Value.slice none 0 0)).size from portsz _)
    have H1C := Lib.hid (show (tabC 32 (fun _ => Value.slice none 0 0)).all (·.oneCell') = true from tabC_all fun k hk => ((HS.out.pt).row k hk).one)
    have HE := Lib.hid (laid_bad (HS.out.pt) (HS.out.fr) hla.out (Nat.le_add_right _ 1))
    have HL := Lib.hid (ports_load _ _ _ (HS.out.pt).same.box)
    generalize tabC 32 (fun _ => Value.slice none 0 0) = C at *
    go_wp2_with (first
      | (refine wpList_load_row rfl 102 _ rfl (w.heap.size + 1) rfl 102 C (0, 0) _ HB.out Try.underlying102 rfl HZC.out ?_)
      | (refine wpList_store_row rfl 102 _ _ rfl (w.heap.size + 1) C rfl rfl 102 C HB.out HZC.out rfl H1C.out ?_))
    exact bodyPost_ret (v := .tuple #[.agg C, .int .i64 0, .int .i64 17]) ((results_cell3 (p := 2) (u := 3) (v := 4) (ty := 102) (by kernel_rfl) _ _ _ (w.heap.size + 1) C rfl HL.out).trans rfl) rfl HE.out
  have hP0 : x.g.P0 := ⟨by rw [x.st_len]; omega, by rw [x.du_len]; omega⟩
  have h1i : ¬ (16 : Int) < x.sp.length := by omega
  have h2i : ¬ (64 : Int) < x.du.length := by omega
  have HP0 := Lib.hid hP0; have HX := Lib.hid hx; have HSM := Lib.hid hsm
  clear hP0 hx hsm
  go_enter Try.func95, Try.ntmps95
  go_upto_region 1 with fail
  rw [← hw1]
  clear hw1
  have c0 := cell_block HS.out.gb 0
  have c1 := cell_block HS.out.gb 1
  go_wp2_with fail
  clear c0 c1
  go_loopw [28] (fun i wr => ∃ k : Nat, k ≤ x.sp.length ∧ i = .int .i64 k ∧ Hid (∃ f, L1 w x k f wr)) (fun i _ => x.sp.length - (intOf i).toNat)
  case atStart => exact ⟨0, Nat.zero_le _, rfl, Lib.hid ⟨_, HS.out.l1⟩⟩
  case round =>
    obtain ⟨k, hk, rfl, HK⟩ := hrel
    clear HS
    by_cases hlt : k < x.sp.length
    · obtain ⟨f, hL⟩ := HK.out
      have hL := Lib.hid hL; clear HK
      obtain ⟨gs, os, hsa, hrow⟩ := (HX.out.fr hL.out.fr).st.flat sp_len (by decide) (by omega)
      obtain ⟨c0, c1, c2, c3⟩ := sp_cells hrow hlt
      have hmem := List.getElem_mem hlt
      have HA := Lib.hid (fun (W : World) (hf : Fr No w W) => sarity_any x.sp[k] W ((HX.out.sp _ hmem).fr hf) (HSM.out.b _ hmem))
      have hrg := stg_range (x.sp[k]).s (HX.out.sp _ hmem).most
      have hsk : x.g.s k = (x.sp[k]).s := x.s_at hlt
      have hbad : x.g.stBad k = (x.sp[k]).s.chk := by unfold Gr.stBad; rw [hsk]
      have HSK := Lib.hid hsk; have HBD := Lib.hid hbad; have HRG := Lib.hid hrg
      clear hmem hrow hsk hbad hrg
      rw [hsa]
      generalize x.sp[k] = p at *
      obtain ⟨⟨pk, pn, pA, pB⟩, aA, cA, aB, cB⟩ := p
      dsimp only at *
      generalize Stg.chk ⟨pk, pn, pA, pB⟩ = ch at *
      obtain ⟨ins, hin⟩ : ∃ ins, ins = Stg.ins ⟨pk, pn, pA, pB⟩ := ⟨_, rfl⟩
      obtain ⟨outs, hou⟩ : ∃ outs, outs = Stg.outs ⟨pk, pn, pA, pB⟩ := ⟨_, rfl⟩
      rw [← hin, ← hou] at HRG HA
      have HIN := Lib.hid hin.symm; have HOU := Lib.hid hou.symm
      clear hin hou
      have hki : (k : Int) < x.sp.length := by omega
      have hk16 : (k : Int) < 16 := by omega
      by_cases hc : ch = 0
      · subst hc
        obtain ⟨r1, r2, r3, r4⟩ := HRG.out rfl
        obtain ⟨ni, rfl⟩ : ∃ ni : Nat, ins = ni := ⟨ins.toNat, by omega⟩
        obtain ⟨no, rfl⟩ : ∃ no : Nat, outs = no := ⟨outs.toNat, by omega⟩
        have HF := Lib.hid (fun (W : World) (n : Nat) (hn : n ≤ 4) => free_any n hn W)
        go_wp2_with (first
          | (go_at_call 30; refine (HA.out _ (hL.out.fr.trans ((Fr.refl No wr).alloc _))).mono ?_; rintro e w2 ⟨rfl, hf2⟩
             have hL2 := Lib.hid ((hL.out.keep ((Fr.refl No wr).alloc _)).keep hf2)
             clear hf2))
        go_region_law (first
          | (go_simp; go_at_call_of 104 (Value.int IntKind.i64 (ni : Int)); refine (HF.out _ ni (by omega)).mono ?_; rintro e w3 ⟨b1, rfl, hb1, hh1, hf3⟩
             have HF3 := Lib.hid hf3; have HH1 := Lib.hid hh1; clear hf3 hh1)
          | (go_simp; go_at_call 104; refine (HF.out _ no (by omega)).mono ?_; rintro e w4 ⟨b2, rfl, hb2, hh2, hf4⟩
             have HF4 := Lib.hid hf4; have HH2 := Lib.hid hh2; clear hf4 hh2
             have pt4 := (hL2.out.pt.fr (Fr.refl No w2).drew).fr (HF3.out.trans HF4.out)
             obtain ⟨y1, y2⟩ := pt4.cell (s := k) (by omega)
             obtain ⟨y3, y4⟩ := pt4.cell (s := 16 + k) (by omega)
             have y5 := (cell_set (w := w4) (b := w.heap.size + 1) (o := k) (o' := 16 + k) (u := .slice (some ⟨b1, 0, none⟩) ni ni) (by omega)).trans y3
             have HN := Lib.hid ((hL2.out.keep (Fr.refl No w2).drew).next (by omega) hb1 HH1.out HF3.out hb2 HH2.out HF4.out (by rw [HSK.out, HIN.out]; rfl) (by rw [HSK.out, HOU.out]; rfl) HBD.out)
             clear pt4))
        all_goals
          go_wp2
          go_roundw
          case rel => exact ⟨k + 1, by omega, by go_num, Lib.hid ⟨_, HN.out⟩⟩
          case measure => simp [intOf]; omega
      · have hcb : (ch != 0) = true := by simpa using hc
        have hla := Lib.hid (laidAt_st HP0.out (i := k) (by rw [x.st_len]; exact hlt) hL.out.ok (by rw [HBD.out]; exact hc))
        rw [HBD.out] at hla
        go_wp2_with (first
          | (go_at_call 30; refine (HA.out _ (hL.out.fr.trans ((Fr.refl No wr).alloc _))).mono ?_; rintro e w2 ⟨rfl, hf2⟩
             have hL2 := Lib.hid ((hL.out.keep ((Fr.refl No wr).alloc _)).keep hf2)
             have HB := Lib.hid hL2.out.pt.box
             have HZC := Lib.hid (portsz f)
             have H1C := Lib.hid (show (tabC 32 f).all (·.oneCell') = true from tabC_all fun k hk => (hL2.out.pt.row k hk).one)
             have HE := Lib.hid (laid_bad hL2.out.pt hL2.out.fr hla.out (Nat.le_add_right _ 1))
             have HL := Lib.hid (ports_load _ _ _ hL2.out.pt.same.box)
             clear hf2)
          | (refine wpList_load_row rfl 102 _ rfl (w.heap.size + 1) rfl 102 (tabC 32 f) (0, 0) _ HB.out Try.underlying102 rfl HZC.out ?_)
          | (refine wpList_store_row rfl 102 _ _ rfl (w.heap.size + 1) (tabC 32 f) rfl rfl 102 (tabC 32 f) HB.out HZC.out rfl H1C.out ?_))
        exact bodyPost_ret (v := .tuple #[.agg (tabC 32 f), .int .i64 k, .int .i64 ch]) ((results_cell3 (p := 2) (u := 3) (v := 4) (ty := 102) (by kernel_rfl) _ _ _ (w.heap.size + 1) (tabC 32 f) rfl HL.out).trans rfl) rfl HE.out
    · obtain rfl : k = x.sp.length := by omega
      obtain ⟨f, hL⟩ := HK.out
      have hP1 : x.g.P1 := ⟨HP0.out, fun i hi => hL.ok i (by rwa [x.st_len] at hi)⟩
      have HP1 := Lib.hid hP1
      have HRG := Lib.hid (fun (s : Nat) (hs : s < x.sp.length) => show (x.g.s s).ins.toNat ≤ 4 ∧ (x.g.s s).outs.toNat ≤ 4 from by
        have h0 := HP1.out.st s (by rw [x.st_len]; exact hs)
        rw [x.s_at hs]
        unfold Gr.stBad at h0
        rw [x.s_at hs] at h0
        obtain ⟨_, _, _, _⟩ := stg_range (x.sp[s]).s (HX.out.sp _ (List.getElem_mem hs)).most h0
        omega)
      have hL := Lib.hid hL.l2
      have c0 := cell_block hL.out.gb 0
      have c1 := cell_block hL.out.gb 1
      clear HK hP1 hlt hk
      go_wp2_with fail
      clear c0 c1
      go_loopw [59] (fun i wr => ∃ k : Nat, k ≤ x.du.length ∧ i = .int .i64 k ∧ Hid (L2 w x f (fun s => x.g.tab x.sp.length k s) wr) ∧ Hid (∀ j, j < k → x.g.duBad j = 0)) (fun i _ => x.du.length - (intOf i).toNat)
      case atStart => exact ⟨0, Nat.zero_le _, rfl, hL, Lib.hid (fun j hj => absurd hj (by omega))⟩
      case round =>
        obtain ⟨k, hk, rfl, HK, HOK⟩ := hrel
        clear hL
        by_cases hlt : k < x.du.length
        · obtain ⟨gd, od, hda, hrow⟩ := (HX.out.fr HK.out.fr).du.flat dc_len (by decide) (by omega)
          obtain ⟨c0, c1, c2, c3, c4⟩ := dc_cells hrow hlt
          have hdk : x.g.d k = x.du[k] := x.d_at hlt
          have hfp := fits_parts (g := x.g) (j := k) (by rw [x.du_len]; exact hlt)
          rw [hdk, x.st_len] at hfp
          have HDK := Lib.hid hdk; have HFP := Lib.hid hfp
          clear hrow hfp hdk
          rw [hda]
          generalize x.du[k] = d at *
          obtain ⟨frm, out, dto, inn, cap⟩ := d
          dsimp only at *
          have hki : (k : Int) < x.du.length := by omega
          have HST := Lib.hid (fun (n : Int) (W : World) (h : W.cell? ⟨w.heap.size, 0, none⟩ = some (.slice x.sa x.sp.length x.sc)) => stage_any n w.heap.size x.sa x.sp.length x.sc W h)
          have hL2 := Lib.hid (HK.out.keep ((Fr.refl No wr).alloc (.cells #[.int .i64 frm, .int .i64 out, .int .i64 dto, .int .i64 inn, .int .i64 cap] 72)))
          have HZC := Lib.hid (portsz f)
          have H1C := Lib.hid (show (tabC 32 f).all (·.oneCell') = true from tabC_all fun k hk => (hL2.out.pt.row k hk).one)
          by_cases hA : 0 ≤ frm ∧ frm < x.sp.length
          · obtain ⟨fn, rfl⟩ : ∃ fn : Nat, frm = fn := ⟨frm.toNat, by omega⟩
            have hfn : fn < x.sp.length := by omega
            have hpA : portB fn x.sp.length = true := portB_yes hA.1 hA.2
            have HSA := Lib.hid (HST.out fn); rw [hpA] at HSA; clear hpA
            by_cases hB : 0 ≤ dto ∧ dto < x.sp.length
            · obtain ⟨tn, rfl⟩ : ∃ tn : Nat, dto = tn := ⟨dto.toNat, by omega⟩
              have htn : tn < x.sp.length := by omega
              have hpB : portB tn x.sp.length = true := portB_yes hB.1 hB.2
              have HSB := Lib.hid (HST.out tn); rw [hpB] at HSB; clear hpB
              have hfi : (fn : Int) < 16 := by omega
              have hti : (tn : Int) < 16 := by omega
              rw [Int.toNat_natCast, Int.toNat_natCast] at HFP
              have hro : x.g.tab x.sp.length k (16 + fn) = x.g.outRow x.sp.length k fn := tab_out
              have hri : x.g.tab x.sp.length k tn = x.g.inRow x.sp.length k tn := tab_in (by omega)
              have hlo := outRow_len (g := x.g) (i := x.sp.length) (j := k) hfn
              have hli := inRow_len (g := x.g) (i := x.sp.length) (j := k) htn
              by_cases hC : (0 ≤ out ∧ out < (x.g.outRow x.sp.length k fn).length) ∧ (x.g.outRow x.sp.length k fn).getD out.toNat 0 < 0
              · obtain ⟨b1, hf1, hh1⟩ := hL2.out.row (s := 16 + fn) (by omega) (by rw [hro]; omega)
                rw [hro] at hf1 hh1
                have hob1 : (f (16 + fn)).ownBlock = some b1 := by rw [hf1]; rfl
                have hbd : (wr.alloc (.cells #[.int .i64 fn, .int .i64 out, .int .i64 tn, .int .i64 inn, .int .i64 cap] 72)).drew.heap[wr.heap.size]? = some (.cells #[.int .i64 fn, .int .i64 out, .int .i64 tn, .int .i64 inn, .int .i64 cap] 72 (0, 0)) := heap_alloc_new wr _
                have y0 : (wr.alloc (.cells #[.int .i64 fn, .int .i64 out, .int .i64 tn, .int .i64 inn, .int .i64 cap] 72)).cell? ⟨w.heap.size + 1, 16 + fn, none⟩ = some (.slice (some ⟨b1, 0, none⟩) (x.g.outRow x.sp.length k fn).length (x.g.outRow x.sp.length k fn).length) := by
                  rw [(hL2.out.pt.cell (s := 16 + fn) (by omega)).1, hf1]
                have HS1 := Lib.hid (set_yes (wr.alloc (.cells #[.int .i64 fn, .int .i64 out, .int .i64 tn, .int .i64 inn, .int .i64 cap] 72)).drew b1 (x.g.outRow x.sp.length k fn) hh1 out k hC (by rw [hlo]; have := HRG.out _ hfn; omega))
                have H5 := Lib.hid (fun (w5 : World) (hw5 : w5 = (wr.alloc (.cells #[.int .i64 fn, .int .i64 out, .int .i64 tn, .int .i64 inn, .int .i64 cap] 72)).drew.setCell ⟨b1, out.toNat, none⟩ (iv k)) =>
                  show L2 w x f (fun t => if t = 16 + fn then (x.g.tab x.sp.length k (16 + fn)).set out.toNat k else x.g.tab x.sp.length k t) w5 ∧ w5.heap[wr.heap.size]? = some (.cells #[.int .i64 fn, .int .i64 out, .int .i64 tn, .int .i64 inn, .int .i64 cap] 72 (0, 0)) from by
                    rw [hw5]
                    exact ⟨(hL2.out.keep (Fr.refl No _).drew).set (by omega) hob1 _ _, (hL2.out.keep (Fr.refl No _).drew).box (by omega) hob1 _ _ hbd⟩)
                have H5' := Lib.hid (fun (w5 : World) (h : L2 w x f (fun t => if t = 16 + fn then (x.g.tab x.sp.length k (16 + fn)).set out.toNat k else x.g.tab x.sp.length k t) w5) => show ∃ a, f tn = .slice a (x.g.inRow x.sp.length k tn).length (x.g.inRow x.sp.length k tn).length ∧ At w5 a ((x.g.inRow x.sp.length k tn).map iv) from by
                  have := h.pt.slot (s := tn) (by omega)
                  rw [if_neg (by omega), hri] at this
                  exact this)
                have HSA2 := Lib.hid (HSA.out (wr.alloc (.cells #[.int .i64 fn, .int .i64 out, .int .i64 tn, .int .i64 inn, .int .i64 cap] 72)).drew (cell_block hL2.out.gb 0))
                have HSB2 := Lib.hid (HSB.out (wr.alloc (.cells #[.int .i64 fn, .int .i64 out, .int .i64 tn, .int .i64 inn, .int .i64 cap] 72)).drew (cell_block hL2.out.gb 0))
                by_cases hD : (0 ≤ inn ∧ inn < (x.g.inRow x.sp.length k tn).length) ∧ (x.g.inRow x.sp.length k tn).getD inn.toNat 0 < 0
                · obtain ⟨b2, hf2, -⟩ := hL2.out.row (s := tn) (by omega) (by rw [hri]; omega)
                  rw [hri] at hf2
                  have hob2 : (f tn).ownBlock = some b2 := by rw [hf2]; rfl
                  have hfit : x.g.fits k = true := HFP.out.2 ⟨hA, hB, hC, hD⟩
                  have hT6 : ∀ t, t < 32 → x.g.tab x.sp.length (k + 1) t = (fun t => if t = tn then ((fun t => if t = 16 + fn then (x.g.tab x.sp.length k (16 + fn)).set out.toNat k else x.g.tab x.sp.length k t) tn).set inn.toNat k else (fun t => if t = 16 + fn then (x.g.tab x.sp.length k (16 + fn)).set out.toNat k else x.g.tab x.sp.length k t) t) t := fun t ht => by
                    rw [tab_duct (by rw [x.du_len]; exact hlt) hfit (by rw [x.st_len]; omega), HDK.out]
                    dsimp only
                    rw [Int.toNat_natCast, Int.toNat_natCast, if_neg (by omega : ¬ tn = 16 + fn)]
                    by_cases e1 : t = tn
                    · subst e1; rw [if_pos rfl, if_pos rfl]
                    · rw [if_neg e1, if_neg e1]
                      by_cases e2 : t = 16 + fn
                      · subst e2; rw [if_pos rfl]
                      · rw [if_neg e2, if_neg e2]
                  have HS2 := Lib.hid (fun (w5 : World) (h : L2 w x f (fun t => if t = 16 + fn then (x.g.tab x.sp.length k (16 + fn)).set out.toNat k else x.g.tab x.sp.length k t) w5) => set_yes w5 b2 (x.g.inRow x.sp.length k tn) (by
                    obtain ⟨b3, e3, e4⟩ := h.row (s := tn) (by omega) (by rw [if_neg (by omega), hri]; omega)
                    rw [hf2] at e3; injection e3 with e3; injection e3 with e3; injection e3 with e3
                    rw [if_neg (by omega), hri, ← e3] at e4; exact e4) inn k hD (by rw [hli]; have := HRG.out _ htn; omega))
                  have H6 := Lib.hid (fun (w5 w6 : World) (h : L2 w x f (fun t => if t = 16 + fn then (x.g.tab x.sp.length k (16 + fn)).set out.toNat k else x.g.tab x.sp.length k t) w5) (hb : w5.heap[wr.heap.size]? = some (.cells #[.int .i64 fn, .int .i64 out, .int .i64 tn, .int .i64 inn, .int .i64 cap] 72 (0, 0))) (hw6 : w6 = w5.setCell ⟨b2, inn.toNat, none⟩ (iv k)) =>
                    show L2 w x f (fun s => x.g.tab x.sp.length (k + 1) s) w6 ∧ w6.heap[wr.heap.size]? = some (.cells #[.int .i64 fn, .int .i64 out, .int .i64 tn, .int .i64 inn, .int .i64 cap] 72 (0, 0)) from by
                    rw [hw6]
                    exact ⟨(h.set (by omega) hob2 _ _).congr hT6, h.box (by omega) hob2 _ _ hb⟩)
                  generalize hT5 : (fun t => if t = 16 + fn then (x.g.tab x.sp.length k (16 + fn)).set out.toNat k else x.g.tab x.sp.length k t) = TT at *
                  have HF1 := Lib.hid hf1; have HF2 := Lib.hid hf2; have HBD := Lib.hid hbd; have HFIT := Lib.hid hfit
                  clear hA hB hC hD hf1 hh1 hob1 hob2 hro hri hlo hli hbd hf2 hT5 hT6 hfit
                  generalize x.g.outRow x.sp.length k fn = row at *
                  generalize x.g.inRow x.sp.length k tn = row2 at *
                  have HK7 := Lib.hid (fun (T : Nat → List Int) (W : World) (h : L2 w x f T W) (hb : W.heap[wr.heap.size]? = some (.cells #[.int .i64 fn, .int .i64 out, .int .i64 tn, .int .i64 inn, .int .i64 cap] 72 (0, 0))) =>
                    show (fun W => W.cell? ⟨w.heap.size, 0, none⟩ = some (.slice x.sa x.sp.length x.sc) ∧ W.cell? ⟨wr.heap.size, 0, none⟩ = some (.int .i64 fn) ∧ W.cell? ⟨wr.heap.size, 1, none⟩ = some (.int .i64 out) ∧ W.cell? ⟨wr.heap.size, 2, none⟩ = some (.int .i64 tn) ∧ W.cell? ⟨wr.heap.size, 3, none⟩ = some (.int .i64 inn) ∧ W.cell? ⟨w.heap.size + 1, 16 + fn, none⟩ = some (.slice (some ⟨b1, 0, none⟩) row.length row.length) ∧ W.cell? ⟨w.heap.size + 1, tn, none⟩ = some (.slice (some ⟨b2, 0, none⟩) row2.length row2.length)) W from ⟨cell_block h.gb 0, cell_block hb 0, cell_block hb 1, cell_block hb 2, cell_block hb 3, by rw [(h.pt.cell (s := 16 + fn) (by omega)).1, HF1.out], by rw [(h.pt.cell (s := tn) (by omega)).1, HF2.out]⟩)
                  go_wp2_with fail
                  go_region_held3 (fun W => W.cell? ⟨w.heap.size, 0, none⟩ = some (.slice x.sa x.sp.length x.sc) ∧ W.cell? ⟨wr.heap.size, 0, none⟩ = some (.int .i64 fn) ∧ W.cell? ⟨wr.heap.size, 1, none⟩ = some (.int .i64 out) ∧ W.cell? ⟨wr.heap.size, 2, none⟩ = some (.int .i64 tn) ∧ W.cell? ⟨wr.heap.size, 3, none⟩ = some (.int .i64 inn) ∧ W.cell? ⟨w.heap.size + 1, 16 + fn, none⟩ = some (.slice (some ⟨b1, 0, none⟩) row.length row.length) ∧ W.cell? ⟨w.heap.size + 1, tn, none⟩ = some (.slice (some ⟨b2, 0, none⟩) row2.length row2.length))
                    (first | exact HK7.out _ _ (hL2.out.keep (Fr.refl No _).drew) HBD.out | exact HK7.out _ _ HL6.out HB6.out | exact HK7.out _ _ HL5.out HB5.out)
                    (first
                      | (go_at_call_of 105 (Value.int IntKind.i64 (fn : Int)); refine HSA2.out.mono ?_; rintro e w3 ⟨rfl, rfl⟩)
                      | (go_at_call_of 105 (Value.int IntKind.i64 (tn : Int)); refine HSB2.out.mono ?_; rintro e w3 ⟨rfl, rfl⟩)
                      | (go_at_call 106; refine (HS2.out _ HL5.out).mono ?_; rintro e w6 ⟨rfl, hw6⟩
                         obtain ⟨hl6, hb6⟩ := H6.out _ _ HL5.out HB5.out hw6
                         have HL6 := Lib.hid hl6; have HB6 := Lib.hid hb6
                         clear hw6 hl6 hb6)
                      | (go_at_call 106; refine HS1.out.mono ?_; rintro e w5 ⟨rfl, hw5⟩
                         obtain ⟨hl5, hb5⟩ := H5.out _ hw5
                         have HL5 := Lib.hid hl5; have HB5 := Lib.hid hb5
                         clear hw5 hl5 hb5))
                  have z4 : w6.cell? ⟨wr.heap.size, 4, none⟩ = some (.int .i64 cap) := cell_block HB6.out 4
                  by_cases hcp : cap < 1 ∨ 8 < cap
                  · have hla := Lib.hid (laidAt_du HP1.out (i := k) (by rw [x.du_len]; exact hlt) HOK.out (by rw [duBad_cap HFIT.out (by rw [HDK.out]; exact hcp)]; decide))
                    rw [duBad_cap HFIT.out (by rw [HDK.out]; exact hcp)] at hla
                    have HB := Lib.hid HL6.out.pt.box
                    have HE := Lib.hid (laid_bad HL6.out.pt HL6.out.fr hla.out (Nat.le_add_right _ 1))
                    have HL := Lib.hid (ports_load _ _ _ HL6.out.pt.same.box)
                    rcases hcp with hcp | hcp
                    · go_wp2_with (first
                        | (refine wpList_load_row rfl 102 _ rfl (w.heap.size + 1) rfl 102 (tabC 32 f) (0, 0) _ HB.out Try.underlying102 rfl HZC.out ?_)
                        | (refine wpList_store_row rfl 102 _ _ rfl (w.heap.size + 1) (tabC 32 f) rfl rfl 102 (tabC 32 f) HB.out HZC.out rfl H1C.out ?_))
                      exact bodyPost_ret (v := .tuple #[.agg (tabC 32 f), .int .i64 k, .int .i64 16]) ((results_cell3 (p := 2) (u := 3) (v := 4) (ty := 102) (by kernel_rfl) _ _ _ (w.heap.size + 1) (tabC 32 f) rfl HL.out).trans rfl) rfl HE.out
                    · have hcp1 : ¬ cap < 1 := by omega
                      go_wp2_with (first
                        | (refine wpList_load_row rfl 102 _ rfl (w.heap.size + 1) rfl 102 (tabC 32 f) (0, 0) _ HB.out Try.underlying102 rfl HZC.out ?_)
                        | (refine wpList_store_row rfl 102 _ _ rfl (w.heap.size + 1) (tabC 32 f) rfl rfl 102 (tabC 32 f) HB.out HZC.out rfl H1C.out ?_))
                      exact bodyPost_ret (v := .tuple #[.agg (tabC 32 f), .int .i64 k, .int .i64 16]) ((results_cell3 (p := 2) (u := 3) (v := 4) (ty := 102) (by kernel_rfl) _ _ _ (w.heap.size + 1) (tabC 32 f) rfl HL.out).trans rfl) rfl HE.out
                  · have hcp1 : ¬ cap < 1 := by omega
                    have hcp2 : ¬ 8 < cap := by omega
                    have hok := Lib.hid (duBad_ok HFIT.out (by rw [HDK.out]; exact hcp))
                    clear hcp
                    go_wp2_with fail
                    go_roundw
                    case rel => exact ⟨k + 1, by omega, by go_num, HL6, Lib.hid fun j hj => (by
                      by_cases e : j = k
                      · subst e; exact hok.out
                      · exact HOK.out j (by omega))⟩
                    case measure => simp [intOf]; omega
                · obtain ⟨a2, hf2, -⟩ := hL2.out.pt.slot (s := tn) (by omega)
                  rw [hri] at hf2
                  have hnf : ¬ x.g.fits k = true := fun e => hD (HFP.out.1 e).2.2.2
                  have hla := Lib.hid (laidAt_du HP1.out (i := k) (by rw [x.du_len]; exact hlt) HOK.out (by rw [duBad_no hnf]; decide))
                  rw [duBad_no hnf] at hla
                  have HNO := Lib.hid (fun (w5 : World) (h : L2 w x f (fun t => if t = 16 + fn then (x.g.tab x.sp.length k (16 + fn)).set out.toNat k else x.g.tab x.sp.length k t) w5) => set_no w5 a2 (x.g.inRow x.sp.length k tn) _ (x.g.inRow x.sp.length k tn).length rfl (by
                    obtain ⟨a3, e3, e4⟩ := H5'.out w5 h
                    rw [hf2] at e3; injection e3 with e3; subst e3; exact e4) inn k hD (by rw [hli]; have := HRG.out _ htn; omega))
                  have HSL := Lib.hid (fun (w5 : World) (h : L2 w x f (fun t => if t = 16 + fn then (x.g.tab x.sp.length k (16 + fn)).set out.toNat k else x.g.tab x.sp.length k t) w5) => show w5.cell? ⟨w.heap.size + 1, tn, none⟩ = some (.slice a2 (x.g.inRow x.sp.length k tn).length (x.g.inRow x.sp.length k tn).length) from by
                    rw [(h.pt.cell (s := tn) (by omega)).1, hf2])
                  generalize hT5 : (fun t => if t = 16 + fn then (x.g.tab x.sp.length k (16 + fn)).set out.toNat k else x.g.tab x.sp.length k t) = T5 at *
                  have HF1 := Lib.hid hf1; have HF2 := Lib.hid hf2; have HBD := Lib.hid hbd
                  clear hA hB hC hD hnf hf1 hh1 hob1 hro hri hlo hli hbd hf2 hT5
                  generalize x.g.outRow x.sp.length k fn = row at *
                  generalize x.g.inRow x.sp.length k tn = row2 at *
                  have HK7 := Lib.hid (fun (T : Nat → List Int) (W : World) (h : L2 w x f T W) (hb : W.heap[wr.heap.size]? = some (.cells #[.int .i64 fn, .int .i64 out, .int .i64 tn, .int .i64 inn, .int .i64 cap] 72 (0, 0))) =>
                    show (fun W => W.cell? ⟨w.heap.size, 0, none⟩ = some (.slice x.sa x.sp.length x.sc) ∧ W.cell? ⟨wr.heap.size, 0, none⟩ = some (.int .i64 fn) ∧ W.cell? ⟨wr.heap.size, 1, none⟩ = some (.int .i64 out) ∧ W.cell? ⟨wr.heap.size, 2, none⟩ = some (.int .i64 tn) ∧ W.cell? ⟨wr.heap.size, 3, none⟩ = some (.int .i64 inn) ∧ W.cell? ⟨w.heap.size + 1, 16 + fn, none⟩ = some (.slice (some ⟨b1, 0, none⟩) row.length row.length) ∧ W.cell? ⟨w.heap.size + 1, tn, none⟩ = some (.slice a2 row2.length row2.length)) W from ⟨cell_block h.gb 0, cell_block hb 0, cell_block hb 1, cell_block hb 2, cell_block hb 3, by rw [(h.pt.cell (s := 16 + fn) (by omega)).1, HF1.out], by rw [(h.pt.cell (s := tn) (by omega)).1, HF2.out]⟩)
                  go_wp2_with fail
                  go_region_held3 (fun W => W.cell? ⟨w.heap.size, 0, none⟩ = some (.slice x.sa x.sp.length x.sc) ∧ W.cell? ⟨wr.heap.size, 0, none⟩ = some (.int .i64 fn) ∧ W.cell? ⟨wr.heap.size, 1, none⟩ = some (.int .i64 out) ∧ W.cell? ⟨wr.heap.size, 2, none⟩ = some (.int .i64 tn) ∧ W.cell? ⟨wr.heap.size, 3, none⟩ = some (.int .i64 inn) ∧ W.cell? ⟨w.heap.size + 1, 16 + fn, none⟩ = some (.slice (some ⟨b1, 0, none⟩) row.length row.length) ∧ W.cell? ⟨w.heap.size + 1, tn, none⟩ = some (.slice a2 row2.length row2.length))
                    (first | exact HK7.out _ _ (hL2.out.keep (Fr.refl No _).drew) HBD.out | exact HK7.out _ _ HL5.out HB5.out)
                    (first
                      | (go_at_call_of 105 (Value.int IntKind.i64 (fn : Int)); refine HSA2.out.mono ?_; rintro e w3 ⟨rfl, rfl⟩)
                      | (go_at_call_of 105 (Value.int IntKind.i64 (tn : Int)); refine HSB2.out.mono ?_; rintro e w3 ⟨rfl, rfl⟩)
                      | (go_at_call 106; refine (HNO.out _ HL5.out).mono ?_; rintro e w6 ⟨rfl, rfl⟩)
                      | (go_at_call 106; refine HS1.out.mono ?_; rintro e w5 ⟨rfl, hw5⟩
                         obtain ⟨hl5, hb5⟩ := H5.out _ hw5
                         have HL5 := Lib.hid hl5; have HB5 := Lib.hid hb5
                         clear hw5 hl5 hb5))
                  have HB := Lib.hid HL5.out.pt.box
                  have HE := Lib.hid (laid_bad HL5.out.pt HL5.out.fr hla.out (Nat.le_add_right _ 1))
                  have HL := Lib.hid (ports_load _ _ _ HL5.out.pt.same.box)
                  go_wp2_with (first
                    | (refine wpList_load_row rfl 102 _ rfl (w.heap.size + 1) rfl 102 (tabC 32 f) (0, 0) _ HB.out Try.underlying102 rfl HZC.out ?_)
                    | (refine wpList_store_row rfl 102 _ _ rfl (w.heap.size + 1) (tabC 32 f) rfl rfl 102 (tabC 32 f) HB.out HZC.out rfl H1C.out ?_))
                  exact bodyPost_ret (v := .tuple #[.agg (tabC 32 f), .int .i64 k, .int .i64 14]) ((results_cell3 (p := 2) (u := 3) (v := 4) (ty := 102) (by kernel_rfl) _ _ _ (w.heap.size + 1) (tabC 32 f) rfl HL.out).trans rfl) rfl HE.out
              · obtain ⟨a, hfa, hat⟩ := hL2.out.pt.slot (s := 16 + fn) (by omega)
                rw [hro] at hfa hat
                have y0 : (wr.alloc (.cells #[.int .i64 fn, .int .i64 out, .int .i64 tn, .int .i64 inn, .int .i64 cap] 72)).cell? ⟨w.heap.size + 1, 16 + fn, none⟩ = some (.slice a (x.g.outRow x.sp.length k fn).length (x.g.outRow x.sp.length k fn).length) := by
                  rw [(hL2.out.pt.cell (s := 16 + fn) (by omega)).1, hfa]
                have HNO := Lib.hid (fun (q : Nat) => set_no ((wr.alloc (.cells #[.int .i64 fn, .int .i64 out, .int .i64 tn, .int .i64 inn, .int .i64 cap] 72)).drewN q) a (x.g.outRow x.sp.length k fn) _ (x.g.outRow x.sp.length k fn).length rfl (hat.fr ((Fr.refl No _).drewN q) (fun _ _ _ _ _ _ x => x)) out k hC (by rw [hlo]; have := HRG.out _ hfn; omega))
                have hnf : ¬ x.g.fits k = true := fun e => hC (HFP.out.1 e).2.2.1
                have hla := Lib.hid (laidAt_du HP1.out (i := k) (by rw [x.du_len]; exact hlt) HOK.out (by rw [duBad_no hnf]; decide))
                rw [duBad_no hnf] at hla
                have HB := Lib.hid (fun q => (hL2.out.keep ((Fr.refl No _).drewN q)).pt.box)
                have HE := Lib.hid (fun q => laid_bad (hL2.out.keep ((Fr.refl No _).drewN q)).pt (hL2.out.keep ((Fr.refl No _).drewN q)).fr hla.out (Nat.le_add_right _ 1))
                have HL := Lib.hid (fun q => ports_load _ _ _ (hL2.out.keep ((Fr.refl No _).drewN q)).pt.same.box)
                clear hA hB hC hnf hat hfa hro hri hlo hli
                generalize x.g.outRow x.sp.length k fn = row at *
                go_wp2_with fail
                go_quiet (first
                  | (go_at_call_of 105 (Value.int IntKind.i64 (fn : Int)); exact Calls.quiet_of_same (tell_same (HSA.out _ (cell_block hL2.out.gb 0))))
                  | (go_at_call_of 105 (Value.int IntKind.i64 (tn : Int)); exact Calls.quiet_of_same (tell_same (HSB.out _ (cell_block hL2.out.gb 0))))
                  | (go_at_call 106; exact Calls.quiet_of_same (tell_same (HNO.out _))))
                go_wp2_with (first
                  | (refine wpList_load_row rfl 102 _ rfl (w.heap.size + 1) rfl 102 (tabC 32 f) (0, 0) _ (HB.out _) Try.underlying102 rfl HZC.out ?_)
                  | (refine wpList_store_row rfl 102 _ _ rfl (w.heap.size + 1) (tabC 32 f) rfl rfl 102 (tabC 32 f) (HB.out _) HZC.out rfl H1C.out ?_))
                exact bodyPost_ret (v := .tuple #[.agg (tabC 32 f), .int .i64 k, .int .i64 14]) ((results_cell3 (p := 2) (u := 3) (v := 4) (ty := 102) (by kernel_rfl) _ _ _ (w.heap.size + 1) (tabC 32 f) rfl (HL.out _)).trans rfl) rfl (HE.out _)
            · have hpB : portB dto x.sp.length = false := by simp only [portB, decide_eq_false_iff_not]; exact hB
              have HSB := Lib.hid (HST.out dto); rw [hpB] at HSB; clear hpB
              have hnf : ¬ x.g.fits k = true := fun e => hB (HFP.out.1 e).2.1
              have hla := Lib.hid (laidAt_du HP1.out (i := k) (by rw [x.du_len]; exact hlt) HOK.out (by rw [duBad_no hnf]; decide))
              rw [duBad_no hnf] at hla
              have HB := Lib.hid (fun q => (hL2.out.keep ((Fr.refl No _).drewN q)).pt.box)
              have HE := Lib.hid (fun q => laid_bad (hL2.out.keep ((Fr.refl No _).drewN q)).pt (hL2.out.keep ((Fr.refl No _).drewN q)).fr hla.out (Nat.le_add_right _ 1))
              have HL := Lib.hid (fun q => ports_load _ _ _ (hL2.out.keep ((Fr.refl No _).drewN q)).pt.same.box)
              clear hA hB hnf
              go_wp2_with fail
              go_quiet (first
                | (go_at_call_of 105 (Value.int IntKind.i64 (fn : Int)); exact Calls.quiet_of_same (tell_same (HSA.out _ (cell_block hL2.out.gb 0))))
                | (go_at_call_of 105 (Value.int IntKind.i64 dto); exact Calls.quiet_of_same (tell_same (HSB.out _ (cell_block hL2.out.gb 0)))))
              go_wp2_with (first
                | (refine wpList_load_row rfl 102 _ rfl (w.heap.size + 1) rfl 102 (tabC 32 f) (0, 0) _ (HB.out _) Try.underlying102 rfl HZC.out ?_)
                | (refine wpList_store_row rfl 102 _ _ rfl (w.heap.size + 1) (tabC 32 f) rfl rfl 102 (tabC 32 f) (HB.out _) HZC.out rfl H1C.out ?_))
              exact bodyPost_ret (v := .tuple #[.agg (tabC 32 f), .int .i64 k, .int .i64 14]) ((results_cell3 (p := 2) (u := 3) (v := 4) (ty := 102) (by kernel_rfl) _ _ _ (w.heap.size + 1) (tabC 32 f) rfl (HL.out _)).trans rfl) rfl (HE.out _)
          · have hpA : portB frm x.sp.length = false := by simp only [portB, decide_eq_false_iff_not]; exact hA
            have HSA := Lib.hid (HST.out frm); rw [hpA] at HSA; clear hpA
            have hnf : ¬ x.g.fits k = true := fun e => hA (HFP.out.1 e).1
            have hla := Lib.hid (laidAt_du HP1.out (i := k) (by rw [x.du_len]; exact hlt) HOK.out (by rw [duBad_no hnf]; decide))
            rw [duBad_no hnf] at hla
            have HB := Lib.hid (fun q => (hL2.out.keep ((Fr.refl No _).drewN q)).pt.box)
            have HE := Lib.hid (fun q => laid_bad (hL2.out.keep ((Fr.refl No _).drewN q)).pt (hL2.out.keep ((Fr.refl No _).drewN q)).fr hla.out (Nat.le_add_right _ 1))
            have HL := Lib.hid (fun q => ports_load _ _ _ (hL2.out.keep ((Fr.refl No _).drewN q)).pt.same.box)
            clear hA hnf
            go_wp2_with fail
            go_quiet (first | (go_at_call 105; exact Calls.quiet_of_same (tell_same (HSA.out _ (cell_block hL2.out.gb 0)))))
            go_wp2_with (first
              | (refine wpList_load_row rfl 102 _ rfl (w.heap.size + 1) rfl 102 (tabC 32 f) (0, 0) _ (HB.out _) Try.underlying102 rfl HZC.out ?_)
              | (refine wpList_store_row rfl 102 _ _ rfl (w.heap.size + 1) (tabC 32 f) rfl rfl 102 (tabC 32 f) (HB.out _) HZC.out rfl H1C.out ?_))
            exact bodyPost_ret (v := .tuple #[.agg (tabC 32 f), .int .i64 k, .int .i64 14]) ((results_cell3 (p := 2) (u := 3) (v := 4) (ty := 102) (by kernel_rfl) _ _ _ (w.heap.size + 1) (tabC 32 f) rfl (HL.out _)).trans rfl) rfl (HE.out _)
        · obtain rfl : k = x.du.length := by omega
          have hP2 : x.g.P2 := ⟨HP1.out, fun i hi => HOK.out i (by rwa [x.du_len] at hi)⟩
          have HP2 := Lib.hid hP2
          have hLn := Lib.hid HK.out
          have HZC := Lib.hid (portsz f)
          have c0 := cell_block HK.out.gb 0
          clear HK HOK hP2 hlt hk
          go_wp2_with fail
          clear c0
          go_loopw [118] (fun i wr => ∃ k : Nat, k ≤ x.sp.length ∧ i = .int .i64 k ∧ Hid (L2 w x f (fun s => x.g.tab x.sp.length x.du.length s) wr) ∧ Hid (∀ j, j < k → ¬ x.g.dang j)) (fun i _ => x.sp.length - (intOf i).toNat)
          case atStart => exact ⟨0, Nat.zero_le _, rfl, hLn, Lib.hid (fun j hj => absurd hj (by omega))⟩
          case round =>
            obtain ⟨k, hk, rfl, HK, HOK⟩ := hrel
            clear hLn
            have H1C := Lib.hid (show (tabC 32 f).all (·.oneCell') = true from tabC_all fun k hk => (HK.out.pt.row k hk).one)
            have HB := Lib.hid HK.out.pt.box
            have HL := Lib.hid (ports_load _ _ _ HK.out.pt.same.box)
            by_cases hlt : k < x.sp.length
            · have hki : (k : Int) < x.sp.length := by omega
              have hki16 : (k : Int) < 16 := by omega
              have hd := dang_iff (g := x.g) (s := k) (by rw [x.st_len]; exact hlt)
              have hro : x.g.tab x.sp.length x.du.length (16 + k) = x.g.outsOf k := by rw [tab_out]; unfold Gr.outsOf; rw [x.st_len, x.du_len]
              have hri : x.g.tab x.sp.length x.du.length k = x.g.insOf k := by rw [tab_in (by omega)]; unfold Gr.insOf; rw [x.st_len, x.du_len]
              have hlo := outRow_len (g := x.g) (i := x.sp.length) (j := x.du.length) hlt
              have hli := inRow_len (g := x.g) (i := x.sp.length) (j := x.du.length) hlt
              rw [← tab_out, hro] at hlo
              rw [← tab_in (by omega), hri] at hli
              obtain ⟨q1, q2⟩ := HRG.out k hlt
              obtain ⟨a1, e1, t1⟩ := HK.out.pt.slot (s := k) (by omega)
              obtain ⟨a2, e2, t2⟩ := HK.out.pt.slot (s := 16 + k) (by omega)
              have y1 := (HK.out.pt.cell (s := k) (by omega)).1
              have y2 := (HK.out.pt.cell (s := 16 + k) (by omega)).1
              rw [e1] at y1
              rw [e2] at y2
              rw [hri] at t1 y1
              rw [hro] at t2 y2
              have HC1 := Lib.hid (hasI_any a1 _ (x.g.insOf k).length (x.g.insOf k) (-1) wr rfl t1 (by omega))
              have HC2 := Lib.hid (hasI_any a2 _ (x.g.outsOf k).length (x.g.outsOf k) (-1) wr rfl t2 (by omega))
              have HD := Lib.hid hd
              clear hro hri hlo hli q1 q2 e1 e2 t1 t2 hd
              by_cases hA : -1 ∈ x.g.insOf k
              · rw [decide_eq_true hA] at HC1
                have hla := Lib.hid (laidAt_da HP2.out (i := k) (by rw [x.st_len]; exact hlt) HOK.out (HD.out.2 (.inl hA)))
                have HE := Lib.hid (laid_bad HK.out.pt HK.out.fr hla.out (Nat.le_add_right _ 1))
                clear hA
                generalize x.g.insOf k = row at *
                generalize x.g.outsOf k = row2 at *
                go_wp2_with (first
                  | (go_at_call 74; refine HC1.out.mono ?_; rintro e w3 ⟨rfl, rfl⟩)
                  | (refine wpList_load_row rfl 102 _ rfl (w.heap.size + 1) rfl 102 (tabC 32 f) (0, 0) _ HB.out Try.underlying102 rfl HZC.out ?_)
                  | (refine wpList_store_row rfl 102 _ _ rfl (w.heap.size + 1) (tabC 32 f) rfl rfl 102 (tabC 32 f) HB.out HZC.out rfl H1C.out ?_))
                exact bodyPost_ret (v := .tuple #[.agg (tabC 32 f), .int .i64 k, .int .i64 13]) ((results_cell3 (p := 2) (u := 3) (v := 4) (ty := 102) (by kernel_rfl) _ _ _ (w.heap.size + 1) (tabC 32 f) rfl HL.out).trans rfl) rfl HE.out
              · rw [decide_eq_false hA] at HC1
                by_cases hB : -1 ∈ x.g.outsOf k
                · rw [decide_eq_true hB] at HC2
                  have hla := Lib.hid (laidAt_da HP2.out (i := k) (by rw [x.st_len]; exact hlt) HOK.out (HD.out.2 (.inr hB)))
                  have HE := Lib.hid (laid_bad HK.out.pt HK.out.fr hla.out (Nat.le_add_right _ 1))
                  clear hA hB
                  generalize x.g.insOf k = row at *
                  generalize x.g.outsOf k = row2 at *
                  go_wp2_with (first
                    | (go_at_call_of 74 (Value.slice a1 row.length row.length); refine HC1.out.mono ?_; rintro e w3 ⟨rfl, rfl⟩)
                    | (go_at_call 74; refine HC2.out.mono ?_; rintro e w3 ⟨rfl, rfl⟩)
                    | (refine wpList_load_row rfl 102 _ rfl (w.heap.size + 1) rfl 102 (tabC 32 f) (0, 0) _ HB.out Try.underlying102 rfl HZC.out ?_)
                    | (refine wpList_store_row rfl 102 _ _ rfl (w.heap.size + 1) (tabC 32 f) rfl rfl 102 (tabC 32 f) HB.out HZC.out rfl H1C.out ?_))
                  exact bodyPost_ret (v := .tuple #[.agg (tabC 32 f), .int .i64 k, .int .i64 13]) ((results_cell3 (p := 2) (u := 3) (v := 4) (ty := 102) (by kernel_rfl) _ _ _ (w.heap.size + 1) (tabC 32 f) rfl HL.out).trans rfl) rfl HE.out
                · rw [decide_eq_false hB] at HC2
                  have hnd := Lib.hid (fun h => (HD.out.1 h).elim hA hB)
                  clear hA hB
                  generalize x.g.insOf k = row at *
                  generalize x.g.outsOf k = row2 at *
                  go_wp2_with (first
                    | (go_at_call_of 74 (Value.slice a1 row.length row.length); refine HC1.out.mono ?_; rintro e w3 ⟨rfl, rfl⟩)
                    | (go_at_call 74; refine HC2.out.mono ?_; rintro e w3 ⟨rfl, rfl⟩))
                  go_roundw
                  case rel => exact ⟨k + 1, by omega, by go_num, HK, Lib.hid fun j hj => (by
                    by_cases e : j = k
                    · subst e; exact hnd.out
                    · exact HOK.out j (by omega))⟩
                  case measure => simp [intOf]; omega
            · obtain rfl : k = x.sp.length := by omega
              have hla := (laid_iff x.g).2 (HP2.out.laid fun j hj => HOK.out j (by rwa [x.st_len] at hj))
              have HE := Lib.hid (laid_good HK.out hla)
              clear hla
              go_wp2_with (first
                | (refine wpList_load_row rfl 102 _ rfl (w.heap.size + 1) rfl 102 (tabC 32 f) (0, 0) _ HB.out Try.underlying102 rfl HZC.out ?_)
                | (refine wpList_store_row rfl 102 _ _ rfl (w.heap.size + 1) (tabC 32 f) rfl rfl 102 (tabC 32 f) HB.out HZC.out rfl H1C.out ?_))
              exact bodyPost_ret (v := .tuple #[.agg (tabC 32 f), .int .i64 0, .int .i64 0]) ((results_cell3 (p := 2) (u := 3) (v := 4) (ty := 102) (by kernel_rfl) _ _ _ (w.heap.size + 1) (tabC 32 f) rfl HL.out).trans rfl) rfl HE.out
end Go.Proofs.Ytljldkknopmfhaa
