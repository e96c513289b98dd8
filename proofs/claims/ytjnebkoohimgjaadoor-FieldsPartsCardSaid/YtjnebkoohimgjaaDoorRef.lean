/- The document's lines of an input. -/
import Derived.Test.YtjnebkoohimgjaaDoorDrvC
import Derived.Test.YtjnebkoohimgjaaDoorJoinP
import Derived.Deep.RegionLaw
import Derived.Deep.WholeRow
import Derived.Lib.ConvBytes
import Derived.Lib.SmallJoins
namespace Go.Proofs.YtjnebkoohimgjaaDoor
open Go.RowKit

/-- What is read of an input, as it lies in memory. -/
def rdC (v : Value) (all : Bool) (c s i : Int) : Array Value := #[v, .bool all, .int .i64 c, .int .i64 s, .int .i64 i]
/-- All is read; or the error behind it. -/
def rdAll (b : List UInt8) (ended : Bool) : Bool := !rlong b && ended
def rdErr (b : List UInt8) (ended : Bool) (e : Int × Int × Int) : Int × Int × Int := if rlong b then (20, -1, 0) else if ended then (0, 0, 0) else e
def RdPost (w : World) (ls : List (List UInt8)) (all : Bool) (e : Int × Int × Int) (en : Ending) (w' : World) : Prop :=
  ∃ a c, en = .returned (.agg (rdC (.slice a ls.length c) all e.1 e.2.1 e.2.2)) ∧ At w' a (ls.map sv) ∧ Fr No w w'
/-- How it stands ahead of byte k. -/
structure RdInv (w : World) (b : List UInt8) (v : Value) (k s : Nat) (cur : List UInt8) (acc : List (List UInt8)) (box : Array Value) (wr : World) : Prop where
  sk : s + cur.length = k
  c64 : cur.length ≤ 64
  curE : cur = (b.drop s).take cur.length
  al : acc.length ≤ k
  rd : wr.heap[w.heap.size + 1 + 1]? = some (.cells (rdC v false 0 0 0) 93 (0, 0))
  res : wr.heap[w.heap.size + 1]? = some (.cells (rdC (.slice none 0 0) false 0 0 0) 93 (0, 0))
  box : wr.heap[w.heap.size]? = some (.cells box 37 (0, 0))
  own : OwnSl wr 9 1 v acc.length (acc.map sv)
  new : ∀ x, v.ownBlock = some x → w.heap.size + 1 + 1 < x
  fr : Fr No w wr
  eq : cutM (b.drop k) cur acc = cutM b [] []

theorem rd_cells {W : World} {g : Nat} {v : Value} {all : Bool} {c s i : Int} (h : W.heap[g]? = some (.cells (rdC v all c s i) 93 (0, 0))) :
    W.cell? ⟨g, 0, none⟩ = some v ∧ W.cell? ⟨g, 1, none⟩ = some (.bool all) ∧ W.cell? ⟨g, 2, none⟩ = some (.int .i64 c) ∧ W.cell? ⟨g, 3, none⟩ = some (.int .i64 s) ∧ W.cell? ⟨g, 4, none⟩ = some (.int .i64 i) ∧ ∀ j, W.frozen? ⟨g, j, none⟩ = false := by
  have c := cell_block h
  exact ⟨c 0, c 1, c 2, c 3, c 4, fun j => by simp [World.frozen?, h]⟩
theorem rlines_eq (b : List UInt8) : (cutM b [] []).2.2 = rlong b := rfl
set_option maxHeartbeats 4000000 in
set_option maxRecDepth 100000 in
theorem rdlines_any (a : Option Addr) (cap : Nat) (b : List UInt8) (ended : Bool) (ec es ei : Int) (w : World) (hr : At w a (b.map bv)) (hn : b.length ≤ 100000000) (hc : b.length ≤ cap) :
    Calls Tryd.prog 30 #[.agg #[.slice a b.length cap, .bool ended, .int .i64 ec, .int .i64 es, .int .i64 ei]] w (RdPost w (rlines b ended) (rdAll b ended) (rdErr b ended (ec, es, ei))) := by
  obtain ⟨i0, hi, hz0, hz1, hz2⟩ := info_parts Tryd.info9
  have HR := Lib.hid hr; clear hr
  have HSZ : Hid ((Tryd.prog.info? 93).map (·.size) = some 5) := Lib.hid (by kernel_rfl)
  go_enter Tryd.func30, Tryd.ntmps30
  go_wp2
  go_loopw [4, 5] (fun t i wr => ∃ (k s : Nat) (v : Value) (cur : List UInt8) (acc : List (List UInt8)), k ≤ b.length ∧ i = .int .i64 k ∧ t = .int .i64 s ∧ Hid (RdInv w b v k s cur acc #[.slice a b.length cap, .bool ended, .int .i64 ec, .int .i64 es, .int .i64 ei] wr)) (fun _ i _ => b.length - (intOf i).toNat)
  case atStart =>
    refine ⟨0, 0, .slice none 0 0, [], [], Nat.zero_le _, rfl, rfl, Lib.hid ⟨rfl, by simp, by simp, by simp, ?_, ?_, ?_, OwnSl.nil _ _ _, (fun x e => by cases e), (((Fr.refl _ _).alloc _).alloc _).alloc _, rfl⟩⟩
    · rw [show w.heap.size + 1 + 1 = ((w.alloc (.cells #[.slice a b.length cap, .bool ended, .int .i64 ec, .int .i64 es, .int .i64 ei] 37)).alloc (.cells (rdC (.slice none 0 0) false 0 0 0) 93)).heap.size from by simp]; exact heap_alloc_new _ _
    · rw [heap_alloc_old (h := by simp)]
      rw [show w.heap.size + 1 = (w.alloc (.cells #[.slice a b.length cap, .bool ended, .int .i64 ec, .int .i64 es, .int .i64 ei] 37)).heap.size from by simp]; exact heap_alloc_new _ _
    · rw [heap_alloc_old (h := by simp; omega), heap_alloc_old (h := by simp)]; exact heap_alloc_new _ _
  case round =>
    obtain ⟨k, s, v, cur, acc, hk, rfl, rfl, HD⟩ := hrel
    obtain ⟨va, vc, hv0, hvat, _⟩ := HD.out.own.at
    subst hv0
    have HVAT := Lib.hid hvat; clear hvat
    obtain ⟨r0, r1, r2, r3, r4, rz⟩ := rd_cells HD.out.rd
    have x0 : wr.cell? ⟨w.heap.size, 0, none⟩ = some (.slice a b.length cap) := by rw [cell_block HD.out.box]; rfl
    have x1 : wr.cell? ⟨w.heap.size, 1, none⟩ = some (.bool ended) := by rw [cell_block HD.out.box]; rfl
    have x2 : wr.cell? ⟨w.heap.size, 2, none⟩ = some (.int .i64 ec) := by rw [cell_block HD.out.box]; rfl
    have x3 : wr.cell? ⟨w.heap.size, 3, none⟩ = some (.int .i64 es) := by rw [cell_block HD.out.box]; rfl
    have x4 : wr.cell? ⟨w.heap.size, 4, none⟩ = some (.int .i64 ei) := by rw [cell_block HD.out.box]; rfl
    have hgl : w.heap.size + 1 + 1 < wr.heap.size := (Array.getElem?_eq_some_iff.1 HD.out.rd).1
    by_cases hlt : k < b.length
    · have hki : (k : Int) < b.length := by omega
      obtain ⟨g, off, rfl, hrow⟩ := HR.out (by simp; omega)
      have hb := hrow.bts
      have hcell := hb.fr HD.out.fr (fun _ _ x => x) k hlt
      have hd : b.drop k = b[k] :: b.drop (k + 1) := List.drop_eq_getElem_cons hlt
      rw [show b.getD k 0 = b[k] from by simp [List.getD_eq_getElem?_getD, List.getElem?_eq_getElem hlt]] at hcell
      have heq := HD.out.eq
      rw [hd] at heq
      have hsk := HD.out.sk
      have hnx : (b.drop s).take (cur.length + 1) = cur ++ [b[k]] := by
        rw [List.take_succ_eq_append_getElem (by simp; omega), ← HD.out.curE]; simp [hsk]
      generalize b[k] = x at *
      have HQ := Lib.hid heq; clear heq hd
      have HNX := Lib.hid hnx; clear hnx
      have h64 := HD.out.c64
      have hsle : (s : Int) ≤ k := by omega
      by_cases hx : x = 10
      · have hx1 : ((x.toNat : Int) == 10) = true := by subst hx; rfl
        have hx2 : (x.toNat == 10) = true := by subst hx; rfl
        have hcv : ∀ W : World, W.heap = wr.heap → (convert 22 9 (.slice (subA (some ⟨g, off, none⟩) cap s 1) cur.length (cap - s))).run Tryd.prog W = .ok (.string ⟨cur.toArray⟩) W := fun W hW => by
          have h0 : At wr (subA (some ⟨g, off, none⟩) cap s 1) (cur.map bv) := by
            have := ((HR.out.fr HD.out.fr (fun _ _ _ _ _ _ x => x)).sub (cap := cap) (lo := s) (by simpa using hc)).take cur.length
            rw [HD.out.curE, List.map_take, List.map_drop]; exact this
          have h1 : At W (subA (some ⟨g, off, none⟩) cap s 1) (cur.map bv) := fun hp => by
            obtain ⟨g', o', e', hr'⟩ := h0 hp
            exact ⟨g', o', e', fun i hi => by rw [cell_heap hW]; exact hr' i hi⟩
          exact conv_at (P := Tryd.prog) (cap := cap - s) h1 (src := 22) (dst := 9) Tryd.underlying22 Tryd.underlying5 Tryd.underlying9
        have hcv1 := hcv wr.drew rfl
        obtain ⟨j0, hj, jz0, jz1, jz2⟩ := info_parts Tryd.info5
        have hsl : ∀ W : World, (Instr.slice 22 (.slice (some ⟨g, off, none⟩) b.length cap) (some (.int .i64 s)) (some (.int .i64 k)) none).run Tryd.prog W = .ok (.slice (subA (some ⟨g, off, none⟩) cap s 1) cur.length (cap - s)) W := fun W => by
          have := run_slice_both W 22 5 (some ⟨g, off, none⟩) b.length cap s k j0 Tryd.underlying22 hj (by omega) (by omega)
          rwa [jz1, show k - s = cur.length from by omega] at this
        clear hcv
        have hkc : (k : Int) ≤ cap := by omega
        go_wp2_with fail
        go_region_law (refine step_append_sl rfl (.tmp 21) (.tmp 28) 49 49 rfl 9 i0 (.string ⟨#[]⟩) 1 16 Tryd.underlying49 hi hz0 hz1 hz2 rfl (by decide) (.slice va acc.length vc) acc.length (acc.map sv) rfl (HD.out.own.fr ((Fr.refl No wr).drew.alloc _) (fun _ _ _ x => x)) _ 1 [sv cur] rfl (src_slice Tryd.underlying49 rfl (fun _ => ⟨wr.heap.size, 0, rfl, row_at wr.drew #[sv cur] _ rfl _ rfl 9 (0, 0)⟩) (by simp [Value.oneCell'])) (by have := HD.out.al; omega) (by have := HD.out.al; omega) ?_
                       intro v1 w1 hown1 hfr1 hblk1
                       obtain ⟨a1, c1, hv1, hat1, _⟩ := hown1.at
                       subst hv1
                       have fa : Fr (Blk (.slice va acc.length vc)) wr w1 := ((Fr.refl (Blk (.slice va acc.length vc)) wr).drew.alloc _).trans hfr1
                       have e0 : w1.cell? ⟨w.heap.size + 1 + 1, 0, none⟩ = some (.slice va acc.length vc) := ((fa.cell _ 0 hgl (fun h => by have := HD.out.new _ h; omega)).trans r0)
                       have ez : w1.frozen? ⟨w.heap.size + 1 + 1, 0, none⟩ = false := ((fa.frozen _ 0 hgl (fun h => by have := HD.out.new _ h; omega)).trans (rz 0)))
        all_goals
          have HO1 := Lib.hid hown1; have HFA := Lib.hid fa; have HB1 := Lib.hid hblk1
          clear hown1 hfr1 hblk1 fa hat1
          go_wp2
          go_roundw
          case rel =>
            have fs : Fr (fun y _ => y = w.heap.size + 1 + 1) w1 (w1.setCell ⟨w.heap.size + 1 + 1, 0, none⟩ (.slice a1 (acc.length + 1) c1)) := Fr.setCell (S := fun y _ => y = w.heap.size + 1 + 1) (Fr.refl _ _) (fun _ => rfl) _
            have keep : ∀ y, y < w.heap.size + 1 + 1 → (w1.setCell ⟨w.heap.size + 1 + 1, 0, none⟩ (.slice a1 (acc.length + 1) c1)).heap[y]? = wr.heap[y]? := fun y hy => (fs.block y (by have := HFA.out.size; omega) (fun _ h => by omega)).trans (HFA.out.block y (by omega) (fun _ h => by have := HD.out.new _ h; omega))
            have nw : ∀ y, (Value.slice a1 (acc.length + 1) c1).ownBlock = some y → w.heap.size + 1 + 1 < y := fun y e => by
              rcases HB1.out with h | h
              · rw [h] at e; exact HD.out.new y e
              · rw [h] at e; injection e with e; simp at e; omega
            refine ⟨k + 1, k + 1, .slice a1 (acc.length + 1) c1, [], acc ++ [cur], by omega, by go_num, by go_num, Lib.hid ⟨by simp, by simp, by simp, by have := HD.out.al; simp; omega, ?_, ?_, ?_, ?_, nw, ?_, ?_⟩⟩
            · exact (heap_setCell_same w1 (w.heap.size + 1 + 1) 0 _ _ (.slice a1 (acc.length + 1) c1) ((HFA.out.block _ hgl (fun _ h => by have := HD.out.new _ h; omega)).trans HD.out.rd)).trans (by simp [rdC])
            · exact (keep _ (by omega)).trans HD.out.res
            · exact (keep _ (by omega)).trans HD.out.box
            · have := HO1.out.fr fs (fun y o e h => by have := nw y e; omega)
              simpa using this
            · exact (HD.out.fr.step HFA.out (fun y o hy h => by have := HD.out.new _ h; omega)).step fs (fun y o hy h => by omega)
            · rw [← HQ.out, cutM, if_pos hx]
          case measure => simp [intOf]; omega
      · have hx1 : ((x.toNat : Int) == 10) = false := by
          simp; intro e; apply hx; exact UInt8.toNat.inj (by rw [show ((10 : UInt8).toNat) = 10 from rfl]; omega)
        have hx2 : (x.toNat == 10) = false := by
          simp; intro e; apply hx; exact UInt8.toNat.inj (by rw [show ((10 : UInt8).toNat) = 10 from rfl]; exact e)
        by_cases hl : cur.length = 64
        · have hl1 : ((k : Int) - s == 64) = true := by simp; omega
          have ew : wrap64 ((k : Int) - s) = k - s := by unfold wrap64; omega
          have hfin : rlines b ended = acc ∧ rdAll b ended = false ∧ rdErr b ended (ec, es, ei) = (20, -1, 0) := by
            have e1 : cutM b [] [] = (acc, [], true) := by rw [← HQ.out, cutM, if_neg hx, if_pos hl]
            refine ⟨?_, ?_, ?_⟩
            · unfold rlines; rw [e1]; simp
            · unfold rdAll rlong; rw [e1]; simp
            · unfold rdErr rlong; rw [e1]; simp
          obtain ⟨h1, h2, h3⟩ := hfin
          rw [h1, h2, h3]
          clear h1 h2 h3
          have hres3 : (((wr.setCell ⟨w.heap.size + 1 + 1, 2, none⟩ (.int .i64 20)).setCell ⟨w.heap.size + 1 + 1, 3, none⟩ (.int .i64 (-1))).setCell ⟨w.heap.size + 1 + 1, 4, none⟩ (.int .i64 0)).heap[w.heap.size + 1]? = some (.cells (rdC (.slice none 0 0) false 0 0 0) 93 (0, 0)) :=
            (heap_setCell_other _ _ _ _ (by simp)).trans ((heap_setCell_other _ _ _ _ (by simp)).trans ((heap_setCell_other _ _ _ _ (by simp)).trans HD.out.res))
          have HRES := Lib.hid hres3; clear hres3
          go_wp2_with (first
            | (refine wpList_store_row rfl 93 (.tmp 2) (.tmp 39) rfl (w.heap.size + 1) (rdC (.slice va acc.length vc) false 20 (-1) 0) rfl rfl 93 (rdC (.slice none 0 0) false 0 0 0) HRES.out HSZ.out rfl (by simp [rdC, Value.oneCell']) ?_))
          refine bodyPost_ret (results_cell_row (p := 2) (ty := 93) (by kernel_rfl) _ _ (w.heap.size + 1) 93 (rdC (.slice va acc.length vc) false 20 (-1) 0) (0, 0) _ rfl (setRow_heap _ (w.heap.size + 1) _ _ 93 _ HRES.out) Tryd.underlying93 rfl HSZ.out) rfl ?_
          have fz : Fr (fun y _ => y = w.heap.size + 1 ∨ y = w.heap.size + 1 + 1) wr ((((wr.setCell ⟨w.heap.size + 1 + 1, 2, none⟩ (.int .i64 20)).setCell ⟨w.heap.size + 1 + 1, 3, none⟩ (.int .i64 (-1))).setCell ⟨w.heap.size + 1 + 1, 4, none⟩ (.int .i64 0)).setRow (w.heap.size + 1) (rdC (.slice va acc.length vc) false 20 (-1) 0)) :=
            ((((Fr.refl _ wr).setCell (fun _ => .inr rfl) _).setCell (fun _ => .inr rfl) _).setCell (fun _ => .inr rfl) _).setRow _ _ (fun _ _ => .inl rfl)
          exact ⟨va, vc, rfl, HVAT.out.fr fz (fun y o e _ i _ h => by have := HD.out.new y (by rw [e]; rfl); omega), HD.out.fr.step fz (fun y o hy h => by omega)⟩
        · have hl1 : ((k : Int) - s == 64) = false := by simp; omega
          go_wp2
          go_roundw
          case rel =>
            refine ⟨k + 1, s, .slice va acc.length vc, cur ++ [x], acc, by omega, by go_num, rfl, Lib.hid ⟨by simp; omega, by simp; omega, by rw [List.length_append]; exact HNX.out.symm, by have := HD.out.al; omega, HD.out.rd, HD.out.res, HD.out.box, HD.out.own, HD.out.new, HD.out.fr, by rw [← HQ.out, cutM, if_neg hx, if_neg hl]⟩⟩
          case measure => simp [intOf]; omega
    · obtain rfl : k = b.length := by omega
      have heq := HD.out.eq
      rw [List.drop_length] at heq
      have e1 : cutM b [] [] = (acc, cur, false) := by rw [← heq]; rfl
      have HE := Lib.hid e1; clear e1 heq
      have hsk := HD.out.sk
      cases ended with
      | false =>
        have hfin : rlines b false = acc ∧ rdAll b false = false ∧ rdErr b false (ec, es, ei) = (ec, es, ei) := by
          refine ⟨?_, ?_, ?_⟩
          · unfold rlines; rw [HE.out]; simp
          · unfold rdAll; simp
          · unfold rdErr rlong; rw [HE.out]; simp
        have HFIN := Lib.hid hfin; clear hfin
        have hres3 : (((wr.setCell ⟨w.heap.size + 1 + 1, 2, none⟩ (.int .i64 ec)).setCell ⟨w.heap.size + 1 + 1, 3, none⟩ (.int .i64 es)).setCell ⟨w.heap.size + 1 + 1, 4, none⟩ (.int .i64 ei)).heap[w.heap.size + 1]? = some (.cells (rdC (.slice none 0 0) false 0 0 0) 93 (0, 0)) :=
          (heap_setCell_other _ _ _ _ (by simp)).trans ((heap_setCell_other _ _ _ _ (by simp)).trans ((heap_setCell_other _ _ _ _ (by simp)).trans HD.out.res))
        have HRES := Lib.hid hres3; clear hres3
        go_wp2_with (first
          | (refine wpList_store_row rfl 93 (.tmp 2) (.tmp 62) rfl (w.heap.size + 1) (rdC (.slice va acc.length vc) false ec es ei) rfl rfl 93 (rdC (.slice none 0 0) false 0 0 0) HRES.out HSZ.out rfl (by simp [rdC, Value.oneCell']) ?_))
        refine bodyPost_ret (results_cell_row (p := 2) (ty := 93) (by kernel_rfl) _ _ (w.heap.size + 1) 93 (rdC (.slice va acc.length vc) false ec es ei) (0, 0) _ rfl (setRow_heap _ (w.heap.size + 1) _ _ 93 _ HRES.out) Tryd.underlying93 rfl HSZ.out) rfl ?_
        have fz : Fr (fun y _ => y = w.heap.size + 1 ∨ y = w.heap.size + 1 + 1) wr ((((wr.setCell ⟨w.heap.size + 1 + 1, 2, none⟩ (.int .i64 ec)).setCell ⟨w.heap.size + 1 + 1, 3, none⟩ (.int .i64 es)).setCell ⟨w.heap.size + 1 + 1, 4, none⟩ (.int .i64 ei)).setRow (w.heap.size + 1) (rdC (.slice va acc.length vc) false ec es ei)) :=
          ((((Fr.refl _ wr).setCell (fun _ => .inr rfl) _).setCell (fun _ => .inr rfl) _).setCell (fun _ => .inr rfl) _).setRow _ _ (fun _ _ => .inl rfl)
        obtain ⟨h1, h2, h3⟩ := HFIN.out
        rw [h1, h2, h3]
        exact ⟨va, vc, rfl, HVAT.out.fr fz (fun y o e _ i _ h => by have := HD.out.new y (by rw [e]; rfl); omega), HD.out.fr.step fz (fun y o hy h => by omega)⟩
      | true =>
        by_cases hcur : cur = []
        · subst hcur
          have hfin : rlines b true = acc ∧ rdAll b true = true ∧ rdErr b true (ec, es, ei) = (0, 0, 0) := by
            refine ⟨?_, ?_, ?_⟩
            · unfold rlines; rw [HE.out]; simp
            · unfold rdAll rlong; rw [HE.out]; simp
            · unfold rdErr rlong; rw [HE.out]; simp
          have HFIN := Lib.hid hfin; clear hfin
          have hsl : ¬ (s : Int) < b.length := by simp at hsk; omega
          have hres3 : (wr.setCell ⟨w.heap.size + 1 + 1, 1, none⟩ (.bool true)).heap[w.heap.size + 1]? = some (.cells (rdC (.slice none 0 0) false 0 0 0) 93 (0, 0)) := (heap_setCell_other _ _ _ _ (by simp)).trans HD.out.res
          have HRES := Lib.hid hres3; clear hres3
          go_wp2_with (first
            | (refine wpList_store_row rfl 93 (.tmp 2) (.tmp 58) rfl (w.heap.size + 1) (rdC (.slice va acc.length vc) true 0 0 0) rfl rfl 93 (rdC (.slice none 0 0) false 0 0 0) HRES.out HSZ.out rfl (by simp [rdC, Value.oneCell']) ?_))
          refine bodyPost_ret (results_cell_row (p := 2) (ty := 93) (by kernel_rfl) _ _ (w.heap.size + 1) 93 (rdC (.slice va acc.length vc) true 0 0 0) (0, 0) _ rfl (setRow_heap _ (w.heap.size + 1) _ _ 93 _ HRES.out) Tryd.underlying93 rfl HSZ.out) rfl ?_
          have fz : Fr (fun y _ => y = w.heap.size + 1 ∨ y = w.heap.size + 1 + 1) wr ((wr.setCell ⟨w.heap.size + 1 + 1, 1, none⟩ (.bool true)).setRow (w.heap.size + 1) (rdC (.slice va acc.length vc) true 0 0 0)) :=
            ((Fr.refl _ wr).setCell (fun _ => .inr rfl) _).setRow _ _ (fun _ _ => .inl rfl)
          obtain ⟨h1, h2, h3⟩ := HFIN.out
          rw [h1, h2, h3]
          exact ⟨va, vc, rfl, HVAT.out.fr fz (fun y o e _ i _ h => by have := HD.out.new y (by rw [e]; rfl); omega), HD.out.fr.step fz (fun y o hy h => by omega)⟩
        · have hpos : 0 < cur.length := List.length_pos_iff.2 hcur
          have hfin : rlines b true = acc ++ [cur] ∧ rdAll b true = true ∧ rdErr b true (ec, es, ei) = (0, 0, 0) := by
            refine ⟨?_, ?_, ?_⟩
            · unfold rlines; rw [HE.out]; simp [hcur]
            · unfold rdAll rlong; rw [HE.out]; simp
            · unfold rdErr rlong; rw [HE.out]; simp
          have HFIN := Lib.hid hfin; clear hfin
          have hsl0 : (s : Int) < b.length := by omega
          have hcv : (convert 22 9 (.slice (subA a cap s 1) cur.length (cap - s))).run Tryd.prog wr.drew = .ok (.string ⟨cur.toArray⟩) wr.drew := by
            have h0 : At wr (subA a cap s 1) (cur.map bv) := by
              have := ((HR.out.fr HD.out.fr (fun _ _ _ _ _ _ x => x)).sub (cap := cap) (lo := s) (by simpa using hc)).take cur.length
              rw [HD.out.curE, List.map_take, List.map_drop]; exact this
            exact conv_at (P := Tryd.prog) (cap := cap - s) (h0.fr (Fr.refl No wr).drew (fun _ _ _ _ _ _ x => x)) (src := 22) (dst := 9) Tryd.underlying22 Tryd.underlying5 Tryd.underlying9
          obtain ⟨j0, hj, jz0, jz1, jz2⟩ := info_parts Tryd.info5
          have hsl : ∀ W : World, (Instr.slice 22 (.slice a b.length cap) (some (.int .i64 s)) none none).run Tryd.prog W = .ok (.slice (subA a cap s 1) cur.length (cap - s)) W := fun W => by
            have := run_slice_from W 22 5 a b.length cap s j0 Tryd.underlying22 hj (by omega)
            rwa [jz1, show b.length - s = cur.length from by omega] at this
          have hsc : (s : Int) ≤ cap := by omega
          go_wp2_with fail
          go_region_law (refine step_append_sl rfl (.tmp 48) (.tmp 54) 49 49 rfl 9 i0 (.string ⟨#[]⟩) 1 16 Tryd.underlying49 hi hz0 hz1 hz2 rfl (by decide) (.slice va acc.length vc) acc.length (acc.map sv) rfl (HD.out.own.fr ((Fr.refl No wr).drew.alloc _) (fun _ _ _ x => x)) _ 1 [sv cur] rfl (src_slice Tryd.underlying49 rfl (fun _ => ⟨wr.heap.size, 0, rfl, row_at wr.drew #[sv cur] _ rfl _ rfl 9 (0, 0)⟩) (by simp [Value.oneCell'])) (by have := HD.out.al; omega) (by have := HD.out.al; omega) ?_
                         intro v1 w1 hown1 hfr1 hblk1
                         obtain ⟨a1, c1, hv1, hat1, _⟩ := hown1.at
                         subst hv1
                         have fa : Fr (Blk (.slice va acc.length vc)) wr w1 := ((Fr.refl (Blk (.slice va acc.length vc)) wr).drew.alloc _).trans hfr1
                         have rd1 := (fa.block _ hgl (fun _ h => by have := HD.out.new _ h; omega)).trans HD.out.rd
                         obtain ⟨e0, e1, e2, e3, e4, ez⟩ := rd_cells rd1)
          all_goals
            have nw : ∀ y, (Value.slice a1 (acc.length + 1) c1).ownBlock = some y → w.heap.size + 1 + 1 < y := fun y e => by
              rcases hblk1 with h | h
              · rw [h] at e; exact HD.out.new y e
              · rw [h] at e; injection e with e; simp at e; omega
            have HFA := Lib.hid fa; have HA1 := Lib.hid hat1
            clear hown1 hfr1 hblk1 fa hat1
            have hres3 : ((w1.setCell ⟨w.heap.size + 1 + 1, 0, none⟩ (.slice a1 (acc.length + 1) c1)).setCell ⟨w.heap.size + 1 + 1, 1, none⟩ (.bool true)).heap[w.heap.size + 1]? = some (.cells (rdC (.slice none 0 0) false 0 0 0) 93 (0, 0)) := (heap_setCell_other _ _ _ _ (by simp)).trans ((heap_setCell_other _ _ _ _ (by simp)).trans ((HFA.out.block _ (by omega) (fun _ h => by have := HD.out.new _ h; omega)).trans HD.out.res))
            have HRES := Lib.hid hres3; clear hres3
            go_wp2_with (first
              | (refine wpList_store_row rfl 93 (.tmp 2) (.tmp 58) rfl (w.heap.size + 1) (rdC (.slice a1 (acc.length + 1) c1) true 0 0 0) rfl rfl 93 (rdC (.slice none 0 0) false 0 0 0) HRES.out HSZ.out rfl (by simp [rdC, Value.oneCell']) ?_))
            refine bodyPost_ret (results_cell_row (p := 2) (ty := 93) (by kernel_rfl) _ _ (w.heap.size + 1) 93 (rdC (.slice a1 (acc.length + 1) c1) true 0 0 0) (0, 0) _ rfl (setRow_heap _ (w.heap.size + 1) _ _ 93 _ HRES.out) Tryd.underlying93 rfl HSZ.out) rfl ?_
            have fz : Fr (fun y _ => y = w.heap.size + 1 ∨ y = w.heap.size + 1 + 1) w1 (((w1.setCell ⟨w.heap.size + 1 + 1, 0, none⟩ (.slice a1 (acc.length + 1) c1)).setCell ⟨w.heap.size + 1 + 1, 1, none⟩ (.bool true)).setRow (w.heap.size + 1) (rdC (.slice a1 (acc.length + 1) c1) true 0 0 0)) :=
              (((Fr.refl _ w1).setCell (fun _ => .inr rfl) _).setCell (fun _ => .inr rfl) _).setRow _ _ (fun _ _ => .inl rfl)
            obtain ⟨h1, h2, h3⟩ := HFIN.out
            rw [h1, h2, h3]
            refine ⟨a1, c1, by simp, ?_, (HD.out.fr.step HFA.out (fun y o hy h => by have := HD.out.new _ h; omega)).step fz (fun y o hy h => by omega)⟩
            have := HA1.out.fr fz (fun y o e _ i _ h => by have := nw y (by rw [e]; rfl); omega)
            simpa using this
end Go.Proofs.YtjnebkoohimgjaaDoor

/- The document's one output. -/
namespace Go.Proofs.YtjnebkoohimgjaaDoor
open Go.RowKit

/-- One stream in a slice of its own. -/
def OnePost (w : World) (s : List UInt8) (all : Bool) (e : Int × Int × Int) (en : Ending) (w' : World) : Prop :=
  ∃ g c sa sc, en = .returned (.slice (some ⟨g, 0, none⟩) 1 c) ∧ Row w' g 0 (strmC sa s sc all e.1 e.2.1 e.2.2) ∧ At w' sa (s.map bv) ∧ Fr No w w'
theorem bytes_at (W : World) (s : List UInt8) : At (Lib.bytesWorld W 5 ⟨s.toArray⟩) (some ⟨W.heap.size, 0, none⟩) (s.map bv) := fun _ =>
  ⟨W.heap.size, 0, rfl, fun i hi => by
    have hi' : i < s.length := by simpa using hi
    have := Lib.bytesWorld_cell W 5 ⟨s.toArray⟩ i hi'
    rw [Nat.zero_add, this]
    simp [List.getD_eq_getElem?_getD, List.getElem?_eq_getElem hi', bv]⟩
theorem bytes_fr (W : World) (s : ByteArray) : Fr No W (Lib.bytesWorld W 5 s) := Fr.of_below No (Go.Joins.below_bytesWorld W.heap.size W 5 s (Nat.le_refl _))
set_option maxHeartbeats 1000000 in
set_option maxRecDepth 100000 in
theorem out_any (s : List UInt8) (all : Bool) (c st i : Int) (w : World) :
    Calls Tryd.prog 34 #[sv s, .bool all, .agg #[.int .i64 c, .int .i64 st, .int .i64 i]] w (OnePost w s all (if all then (0, 0, 0) else (c, st, i))) := by
  have hcb : ∀ W : World, (convert 9 22 (.string ⟨s.toArray⟩)).run Tryd.prog W = .ok (.slice (some ⟨W.heap.size, 0, none⟩) s.length (grownCap W s.length 0 5)) (Lib.bytesWorld W 5 ⟨s.toArray⟩) := fun W =>
    Lib.run_convert_string_bytes W 9 22 5 ⟨s.toArray⟩ Tryd.underlying9 Tryd.underlying22 Tryd.underlying5
  have hat := bytes_at (w.alloc (.cells #[.int .i64 c, .int .i64 st, .int .i64 i] 35)) s
  rw [show (w.alloc (.cells #[.int .i64 c, .int .i64 st, .int .i64 i] 35)).heap.size = w.heap.size + 1 from by simp] at hat
  have hfr := bytes_fr (w.alloc (.cells #[.int .i64 c, .int .i64 st, .int .i64 i] 35)) ⟨s.toArray⟩
  have hsz := Lib.bytesWorld_size (w.alloc (.cells #[.int .i64 c, .int .i64 st, .int .i64 i] 35)) 5 ⟨s.toArray⟩
  have f0 : (Lib.bytesWorld (w.alloc (.cells #[.int .i64 c, .int .i64 st, .int .i64 i] 35)) 5 ⟨s.toArray⟩).cell? ⟨w.heap.size, 0, none⟩ = some (.int .i64 c) := (hfr.cell _ 0 (by simp) (fun x => x)).trans (by go_simp)
  have f1 : (Lib.bytesWorld (w.alloc (.cells #[.int .i64 c, .int .i64 st, .int .i64 i] 35)) 5 ⟨s.toArray⟩).cell? ⟨w.heap.size, 1, none⟩ = some (.int .i64 st) := (hfr.cell _ 1 (by simp) (fun x => x)).trans (by go_simp)
  have f2 : (Lib.bytesWorld (w.alloc (.cells #[.int .i64 c, .int .i64 st, .int .i64 i] 35)) 5 ⟨s.toArray⟩).cell? ⟨w.heap.size, 2, none⟩ = some (.int .i64 i) := (hfr.cell _ 2 (by simp) (fun x => x)).trans (by go_simp)
  have HAT := Lib.hid hat; have HFR := Lib.hid hfr; have HSZ := Lib.hid hsz
  clear hat hfr hsz
  cases all with
  | true =>
    go_enter Tryd.func34, Tryd.ntmps34
    go_wp2
    go_ret
    refine ⟨_, _, _, grownCap (w.alloc (.cells #[.int .i64 c, .int .i64 st, .int .i64 i] 35)) s.length 0 5, rfl, ?_, at_no HAT.out ((Fr.refl No _).alloc _), ((((Fr.refl No w).alloc _).trans HFR.out).alloc _)⟩
    exact row_at _ _ _ rfl _ rfl _ _
  | false =>
    go_enter Tryd.func34, Tryd.ntmps34
    go_wp2
    go_ret
    refine ⟨_, _, _, grownCap (w.alloc (.cells #[.int .i64 c, .int .i64 st, .int .i64 i] 35)) s.length 0 5, rfl, ?_, at_no HAT.out ((Fr.refl No _).alloc _), ((((Fr.refl No w).alloc _).trans HFR.out).alloc _)⟩
    exact row_at _ _ _ rfl _ rfl _ _
end Go.Proofs.YtjnebkoohimgjaaDoor
