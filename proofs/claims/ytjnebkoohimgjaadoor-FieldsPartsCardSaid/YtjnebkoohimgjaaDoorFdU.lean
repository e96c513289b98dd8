import Derived.Test.YtjnebkoohimgjaaDoorRef
import Derived.Deep.RegionLaw
import Derived.Deep.WholeRow
import Derived.Lib.ConvBytes
import Derived.Test.YtjnebkoohimgjaaDoorChk
import Derived.Test.YtjnebkoohimgjaaDoorStrm
import Derived.Test.YtjnebkoohimgjaaDoorFdIf
import Derived.Test.YtjnebkoohimgjaaDoorCopyP
import Derived.Laws.ResultCell
import Derived.Deep.RegionHeld3
import Derived.Test.YtjnebkoohimgjaaDoorFdN
import Derived.Test.YtjnebkoohimgjaaDoorLiftP
import Derived.Test.YtjnebkoohimgjaaDoorLiftS
/- The document's lines of an input, once more: how much room their slice has. -/
namespace Go.Proofs.YtjnebkoohimgjaaDoor
open Go.RowKit

def RdPostC (w : World) (ls : List (List UInt8)) (all : Bool) (e : Int × Int × Int) (en : Ending) (w' : World) : Prop :=
  ∃ a c, en = .returned (.agg (rdC (.slice a ls.length c) all e.1 e.2.1 e.2.2)) ∧ At w' a (ls.map sv) ∧ Fr No w w' ∧ ls.length ≤ c
set_option maxHeartbeats 4000000 in
set_option maxRecDepth 100000 in
theorem rdlines_cap (a : Option Addr) (cap : Nat) (b : List UInt8) (ended : Bool) (ec es ei : Int) (w : World) (hr : At w a (b.map bv)) (hn : b.length ≤ 100000000) (hc : b.length ≤ cap) :
    Calls Tryd.prog 30 #[.agg #[.slice a b.length cap, .bool ended, .int .i64 ec, .int .i64 es, .int .i64 ei]] w (RdPostC w (rlines b ended) (rdAll b ended) (rdErr b ended (ec, es, ei))) := by
  obtain ⟨i0, hi, hz0, hz1, hz2⟩ := info_parts Tryd.info9
  have HR := Lib.hid hr; clear hr
  have HSZ : Hid ((Tryd.prog.info? 93).map (·.size) = some 5) := Lib.hid (by kernel_rfl)
  go_enter Tryd.func30, Tryd.ntmps30
  go_wp2
  go_loopw [4, 5] (fun t i wr => ∃ (k s : Nat) (v : Value) (cur : List UInt8) (acc : List (List UInt8)), k ≤ b.length ∧ i = .int .i64 k ∧ t = .int .i64 s ∧ Hid (RdInv w b v k s cur acc #[.slice a b.length cap, .bool ended, .int .i64 ec, .int .i64 es, .int .i64 ei] wr)) (fun _ i _ => b.length - (intOf i).toNat)
  case atStart =>
    refine ⟨0, 0, .slice none 0 0, [], [], Nat.zero_le _, rfl, rfl, Lib.hid ⟨rfl, by simp, by simp, by simp, ?_, ?_, ?_, OwnSl.nil _ _ _, (fun x e => by cases e), (((Fr.refl _ _).alloc _).alloc _).alloc _, rfl⟩⟩
    · rw [show w.heap.size + 1 + 1 = ((w.alloc (.cells #[.slice a b.length cap, .bool ended, .int .i64 ec, .int .i64 es, .int .i64 ei] 37)).alloc (.cells (rdC (.slice none 0 0) false 0 0 0) 93)).heap.size from by simp]; exact heap_alloc_new _ _
    · rw [heap_alloc_old (h := by simp)]
      rw [show w.heap.size + 1 = (w.alloc (.cells #[.slice a b.length cap, .bool ended, .int .i64 ec, .int .i64 es, .int .i64 ei] 37)).heap.size from by simp]; exact heap_alloc_new _ _
    · rw [heap_alloc_old (h := by simp; omega), heap_alloc_old (h := by simp)]; exact heap_alloc_new _ _
  case round =>
    obtain ⟨k, s, v, cur, acc, hk, rfl, rfl, HD⟩ := hrel
    obtain ⟨va, vc, hv0, hvat, hvc⟩ := HD.out.own.at
    have HVC := Lib.hid hvc; clear hvc
    subst hv0
    have HVAT := Lib.hid hvat; clear hvat
    obtain ⟨r0, r1, r2, r3, r4, rz⟩ := rd_cells HD.out.rd
    have x0 : wr.cell? ⟨w.heap.size, 0, none⟩ = some (.slice a b.length cap) := by rw [cell_block HD.out.box]; rfl
    have x1 : wr.cell? ⟨w.heap.size, 1, none⟩ = some (.bool ended) := by rw [cell_block HD.out.box]; rfl
    have x2 : wr.cell? ⟨w.heap.size, 2, none⟩ = some (.int .i64 ec) := by rw [cell_block HD.out.box]; rfl
    have x3 : wr.cell? ⟨w.heap.size, 3, none⟩ = some (.int .i64 es) := by rw [cell_block HD.out.box]; rfl
    have x4 : wr.cell? ⟨w.heap.size, 4, none⟩ = some (.int .i64 ei) := by rw [cell_block HD.out.box]; rfl
    have hgl : w.heap.size + 1 + 1 < wr.heap.size := (Array.getElem?_eq_some_iff.1 HD.out.rd).1
    by_cases hlt : k < b.length
    · have hki : (k : Int) < b.length := by omega
      obtain ⟨g, off, rfl, hrow⟩ := HR.out (by simp; omega)
      have hb := hrow.bts
      have hcell := hb.fr HD.out.fr (fun _ _ x => x) k hlt
      have hd : b.drop k = b[k] :: b.drop (k + 1) := List.drop_eq_getElem_cons hlt
      rw [show b.getD k 0 = b[k] from by simp [List.getD_eq_getElem?_getD, List.getElem?_eq_getElem hlt]] at hcell
      have heq := HD.out.eq
      rw [hd] at heq
      have hsk := HD.out.sk
      have hnx : (b.drop s).take (cur.length + 1) = cur ++ [b[k]] := by
        rw [List.take_succ_eq_append_getElem (by simp; omega), ← HD.out.curE]; simp [hsk]
      generalize b[k] = x at *
      have HQ := Lib.hid heq; clear heq hd
      have HNX := Lib.hid hnx; clear hnx
      have h64 := HD.out.c64
      have hsle : (s : Int) ≤ k := by omega
      by_cases hx : x = 10
      · have hx1 : ((x.toNat : Int) == 10) = true := by subst hx; rfl
        have hx2 : (x.toNat == 10) = true := by subst hx; rfl
        have hcv : ∀ W : World, W.heap = wr.heap → (convert 22 9 (.slice (subA (some ⟨g, off, none⟩) cap s 1) cur.length (cap - s))).run Tryd.prog W = .ok (.string ⟨cur.toArray⟩) W := fun W hW => by
          have h0 : At wr (subA (some ⟨g, off, none⟩) cap s 1) (cur.map bv) := by
            have := ((HR.out.fr HD.out.fr (fun _ _ _ _ _ _ x => x)).sub (cap := cap) (lo := s) (by simpa using hc)).take cur.length
            rw [HD.out.curE, List.map_take, List.map_drop]; exact this
          have h1 : At W (subA (some ⟨g, off, none⟩) cap s 1) (cur.map bv) := fun hp => by
            obtain ⟨g', o', e', hr'⟩ := h0 hp
            exact ⟨g', o', e', fun i hi => by rw [cell_heap hW]; exact hr' i hi⟩
          exact conv_at (P := Tryd.prog) (cap := cap - s) h1 (src := 22) (dst := 9) Tryd.underlying22 Tryd.underlying5 Tryd.underlying9
        have hcv1 := hcv wr.drew rfl
        obtain ⟨j0, hj, jz0, jz1, jz2⟩ := info_parts Tryd.info5
        have hsl : ∀ W : World, (Instr.slice 22 (.slice (some ⟨g, off, none⟩) b.length cap) (some (.int .i64 s)) (some (.int .i64 k)) none).run Tryd.prog W = .ok (.slice (subA (some ⟨g, off, none⟩) cap s 1) cur.length (cap - s)) W := fun W => by
          have := run_slice_both W 22 5 (some ⟨g, off, none⟩) b.length cap s k j0 Tryd.underlying22 hj (by omega) (by omega)
          rwa [jz1, show k - s = cur.length from by omega] at this
        clear hcv
        have hkc : (k : Int) ≤ cap := by omega
        go_wp2_with fail
        go_region_law (refine step_append_sl rfl (.tmp 21) (.tmp 28) 49 49 rfl 9 i0 (.string ⟨#[]⟩) 1 16 Tryd.underlying49 hi hz0 hz1 hz2 rfl (by decide) (.slice va acc.length vc) acc.length (acc.map sv) rfl (HD.out.own.fr ((Fr.refl No wr).drew.alloc _) (fun _ _ _ x => x)) _ 1 [sv cur] rfl (src_slice Tryd.underlying49 rfl (fun _ => ⟨wr.heap.size, 0, rfl, row_at wr.drew #[sv cur] _ rfl _ rfl 9 (0, 0)⟩) (by simp [Value.oneCell'])) (by have := HD.out.al; omega) (by have := HD.out.al; omega) ?_
                       intro v1 w1 hown1 hfr1 hblk1
                       obtain ⟨a1, c1, hv1, hat1, _⟩ := hown1.at
                       subst hv1
                       have fa : Fr (Blk (.slice va acc.length vc)) wr w1 := ((Fr.refl (Blk (.slice va acc.length vc)) wr).drew.alloc _).trans hfr1
                       have e0 : w1.cell? ⟨w.heap.size + 1 + 1, 0, none⟩ = some (.slice va acc.length vc) := ((fa.cell _ 0 hgl (fun h => by have := HD.out.new _ h; omega)).trans r0)
                       have ez : w1.frozen? ⟨w.heap.size + 1 + 1, 0, none⟩ = false := ((fa.frozen _ 0 hgl (fun h => by have := HD.out.new _ h; omega)).trans (rz 0)))
        all_goals
          have HO1 := Lib.hid hown1; have HFA := Lib.hid fa; have HB1 := Lib.hid hblk1
          clear hown1 hfr1 hblk1 fa hat1
          go_wp2
          go_roundw
          case rel =>
            have fs : Fr (fun y _ => y = w.heap.size + 1 + 1) w1 (w1.setCell ⟨w.heap.size + 1 + 1, 0, none⟩ (.slice a1 (acc.length + 1) c1)) := Fr.setCell (S := fun y _ => y = w.heap.size + 1 + 1) (Fr.refl _ _) (fun _ => rfl) _
            have keep : ∀ y, y < w.heap.size + 1 + 1 → (w1.setCell ⟨w.heap.size + 1 + 1, 0, none⟩ (.slice a1 (acc.length + 1) c1)).heap[y]? = wr.heap[y]? := fun y hy => (fs.block y (by have := HFA.out.size; omega) (fun _ h => by omega)).trans (HFA.out.block y (by omega) (fun _ h => by have := HD.out.new _ h; omega))
            have nw : ∀ y, (Value.slice a1 (acc.length + 1) c1).ownBlock = some y → w.heap.size + 1 + 1 < y := fun y e => by
              rcases HB1.out with h | h
              · rw [h] at e; exact HD.out.new y e
              · rw [h] at e; injection e with e; simp at e; omega
            refine ⟨k + 1, k + 1, .slice a1 (acc.length + 1) c1, [], acc ++ [cur], by omega, by go_num, by go_num, Lib.hid ⟨by simp, by simp, by simp, by have := HD.out.al; simp; omega, ?_, ?_, ?_, ?_, nw, ?_, ?_⟩⟩
            · exact (heap_setCell_same w1 (w.heap.size + 1 + 1) 0 _ _ (.slice a1 (acc.length + 1) c1) ((HFA.out.block _ hgl (fun _ h => by have := HD.out.new _ h; omega)).trans HD.out.rd)).trans (by simp [rdC])
            · exact (keep _ (by omega)).trans HD.out.res
            · exact (keep _ (by omega)).trans HD.out.box
            · have := HO1.out.fr fs (fun y o e h => by have := nw y e; omega)
              simpa using this
            · exact (HD.out.fr.step HFA.out (fun y o hy h => by have := HD.out.new _ h; omega)).step fs (fun y o hy h => by omega)
            · rw [← HQ.out, cutM, if_pos hx]
          case measure => simp [intOf]; omega
      · have hx1 : ((x.toNat : Int) == 10) = false := by
          simp; intro e; apply hx; exact UInt8.toNat.inj (by rw [show ((10 : UInt8).toNat) = 10 from rfl]; omega)
        have hx2 : (x.toNat == 10) = false := by
          simp; intro e; apply hx; exact UInt8.toNat.inj (by rw [show ((10 : UInt8).toNat) = 10 from rfl]; exact e)
        by_cases hl : cur.length = 64
        · have hl1 : ((k : Int) - s == 64) = true := by simp; omega
          have ew : wrap64 ((k : Int) - s) = k - s := by unfold wrap64; omega
          have hfin : rlines b ended = acc ∧ rdAll b ended = false ∧ rdErr b ended (ec, es, ei) = (20, -1, 0) := by
            have e1 : cutM b [] [] = (acc, [], true) := by rw [← HQ.out, cutM, if_neg hx, if_pos hl]
            refine ⟨?_, ?_, ?_⟩
            · unfold rlines; rw [e1]; simp
            · unfold rdAll rlong; rw [e1]; simp
            · unfold rdErr rlong; rw [e1]; simp
          obtain ⟨h1, h2, h3⟩ := hfin
          rw [h1, h2, h3]
          clear h1 h2 h3
          have hres3 : (((wr.setCell ⟨w.heap.size + 1 + 1, 2, none⟩ (.int .i64 20)).setCell ⟨w.heap.size + 1 + 1, 3, none⟩ (.int .i64 (-1))).setCell ⟨w.heap.size + 1 + 1, 4, none⟩ (.int .i64 0)).heap[w.heap.size + 1]? = some (.cells (rdC (.slice none 0 0) false 0 0 0) 93 (0, 0)) :=
            (heap_setCell_other _ _ _ _ (by simp)).trans ((heap_setCell_other _ _ _ _ (by simp)).trans ((heap_setCell_other _ _ _ _ (by simp)).trans HD.out.res))
          have HRES := Lib.hid hres3; clear hres3
          go_wp2_with (first
            | (refine wpList_store_row rfl 93 (.tmp 2) (.tmp 39) rfl (w.heap.size + 1) (rdC (.slice va acc.length vc) false 20 (-1) 0) rfl rfl 93 (rdC (.slice none 0 0) false 0 0 0) HRES.out HSZ.out rfl (by simp [rdC, Value.oneCell']) ?_))
          refine bodyPost_ret (results_cell_row (p := 2) (ty := 93) (by kernel_rfl) _ _ (w.heap.size + 1) 93 (rdC (.slice va acc.length vc) false 20 (-1) 0) (0, 0) _ rfl (setRow_heap _ (w.heap.size + 1) _ _ 93 _ HRES.out) Tryd.underlying93 rfl HSZ.out) rfl ?_
          have fz : Fr (fun y _ => y = w.heap.size + 1 ∨ y = w.heap.size + 1 + 1) wr ((((wr.setCell ⟨w.heap.size + 1 + 1, 2, none⟩ (.int .i64 20)).setCell ⟨w.heap.size + 1 + 1, 3, none⟩ (.int .i64 (-1))).setCell ⟨w.heap.size + 1 + 1, 4, none⟩ (.int .i64 0)).setRow (w.heap.size + 1) (rdC (.slice va acc.length vc) false 20 (-1) 0)) :=
            ((((Fr.refl _ wr).setCell (fun _ => .inr rfl) _).setCell (fun _ => .inr rfl) _).setCell (fun _ => .inr rfl) _).setRow _ _ (fun _ _ => .inl rfl)
          exact ⟨va, vc, rfl, HVAT.out.fr fz (fun y o e _ i _ h => by have := HD.out.new y (by rw [e]; rfl); omega), HD.out.fr.step fz (fun y o hy h => by omega), HVC.out⟩
        · have hl1 : ((k : Int) - s == 64) = false := by simp; omega
          go_wp2
          go_roundw
          case rel =>
            refine ⟨k + 1, s, .slice va acc.length vc, cur ++ [x], acc, by omega, by go_num, rfl, Lib.hid ⟨by simp; omega, by simp; omega, by rw [List.length_append]; exact HNX.out.symm, by have := HD.out.al; omega, HD.out.rd, HD.out.res, HD.out.box, HD.out.own, HD.out.new, HD.out.fr, by rw [← HQ.out, cutM, if_neg hx, if_neg hl]⟩⟩
          case measure => simp [intOf]; omega
    · obtain rfl : k = b.length := by omega
      have heq := HD.out.eq
      rw [List.drop_length] at heq
      have e1 : cutM b [] [] = (acc, cur, false) := by rw [← heq]; rfl
      have HE := Lib.hid e1; clear e1 heq
      have hsk := HD.out.sk
      cases ended with
      | false =>
        have hfin : rlines b false = acc ∧ rdAll b false = false ∧ rdErr b false (ec, es, ei) = (ec, es, ei) := by
          refine ⟨?_, ?_, ?_⟩
          · unfold rlines; rw [HE.out]; simp
          · unfold rdAll; simp
          · unfold rdErr rlong; rw [HE.out]; simp
        have HFIN := Lib.hid hfin; clear hfin
        have hres3 : (((wr.setCell ⟨w.heap.size + 1 + 1, 2, none⟩ (.int .i64 ec)).setCell ⟨w.heap.size + 1 + 1, 3, none⟩ (.int .i64 es)).setCell ⟨w.heap.size + 1 + 1, 4, none⟩ (.int .i64 ei)).heap[w.heap.size + 1]? = some (.cells (rdC (.slice none 0 0) false 0 0 0) 93 (0, 0)) :=
          (heap_setCell_other _ _ _ _ (by simp)).trans ((heap_setCell_other _ _ _ _ (by simp)).trans ((heap_setCell_other _ _ _ _ (by simp)).trans HD.out.res))
        have HRES := Lib.hid hres3; clear hres3
        go_wp2_with (first
          | (refine wpList_store_row rfl 93 (.tmp 2) (.tmp 62) rfl (w.heap.size + 1) (rdC (.slice va acc.length vc) false ec es ei) rfl rfl 93 (rdC (.slice none 0 0) false 0 0 0) HRES.out HSZ.out rfl (by simp [rdC, Value.oneCell']) ?_))
        refine bodyPost_ret (results_cell_row (p := 2) (ty := 93) (by kernel_rfl) _ _ (w.heap.size + 1) 93 (rdC (.slice va acc.length vc) false ec es ei) (0, 0) _ rfl (setRow_heap _ (w.heap.size + 1) _ _ 93 _ HRES.out) Tryd.underlying93 rfl HSZ.out) rfl ?_
        have fz : Fr (fun y _ => y = w.heap.size + 1 ∨ y = w.heap.size + 1 + 1) wr ((((wr.setCell ⟨w.heap.size + 1 + 1, 2, none⟩ (.int .i64 ec)).setCell ⟨w.heap.size + 1 + 1, 3, none⟩ (.int .i64 es)).setCell ⟨w.heap.size + 1 + 1, 4, none⟩ (.int .i64 ei)).setRow (w.heap.size + 1) (rdC (.slice va acc.length vc) false ec es ei)) :=
          ((((Fr.refl _ wr).setCell (fun _ => .inr rfl) _).setCell (fun _ => .inr rfl) _).setCell (fun _ => .inr rfl) _).setRow _ _ (fun _ _ => .inl rfl)
        obtain ⟨h1, h2, h3⟩ := HFIN.out
        rw [h1, h2, h3]
        exact ⟨va, vc, rfl, HVAT.out.fr fz (fun y o e _ i _ h => by have := HD.out.new y (by rw [e]; rfl); omega), HD.out.fr.step fz (fun y o hy h => by omega), HVC.out⟩
      | true =>
        by_cases hcur : cur = []
        · subst hcur
          have hfin : rlines b true = acc ∧ rdAll b true = true ∧ rdErr b true (ec, es, ei) = (0, 0, 0) := by
            refine ⟨?_, ?_, ?_⟩
            · unfold rlines; rw [HE.out]; simp
            · unfold rdAll rlong; rw [HE.out]; simp
            · unfold rdErr rlong; rw [HE.out]; simp
          have HFIN := Lib.hid hfin; clear hfin
          have hsl : ¬ (s : Int) < b.length := by simp at hsk; omega
          have hres3 : (wr.setCell ⟨w.heap.size + 1 + 1, 1, none⟩ (.bool true)).heap[w.heap.size + 1]? = some (.cells (rdC (.slice none 0 0) false 0 0 0) 93 (0, 0)) := (heap_setCell_other _ _ _ _ (by simp)).trans HD.out.res
          have HRES := Lib.hid hres3; clear hres3
          go_wp2_with (first
            | (refine wpList_store_row rfl 93 (.tmp 2) (.tmp 58) rfl (w.heap.size + 1) (rdC (.slice va acc.length vc) true 0 0 0) rfl rfl 93 (rdC (.slice none 0 0) false 0 0 0) HRES.out HSZ.out rfl (by simp [rdC, Value.oneCell']) ?_))
          refine bodyPost_ret (results_cell_row (p := 2) (ty := 93) (by kernel_rfl) _ _ (w.heap.size + 1) 93 (rdC (.slice va acc.length vc) true 0 0 0) (0, 0) _ rfl (setRow_heap _ (w.heap.size + 1) _ _ 93 _ HRES.out) Tryd.underlying93 rfl HSZ.out) rfl ?_
          have fz : Fr (fun y _ => y = w.heap.size + 1 ∨ y = w.heap.size + 1 + 1) wr ((wr.setCell ⟨w.heap.size + 1 + 1, 1, none⟩ (.bool true)).setRow (w.heap.size + 1) (rdC (.slice va acc.length vc) true 0 0 0)) :=
            ((Fr.refl _ wr).setCell (fun _ => .inr rfl) _).setRow _ _ (fun _ _ => .inl rfl)
          obtain ⟨h1, h2, h3⟩ := HFIN.out
          rw [h1, h2, h3]
          exact ⟨va, vc, rfl, HVAT.out.fr fz (fun y o e _ i _ h => by have := HD.out.new y (by rw [e]; rfl); omega), HD.out.fr.step fz (fun y o hy h => by omega), HVC.out⟩
        · have hpos : 0 < cur.length := List.length_pos_iff.2 hcur
          have hfin : rlines b true = acc ++ [cur] ∧ rdAll b true = true ∧ rdErr b true (ec, es, ei) = (0, 0, 0) := by
            refine ⟨?_, ?_, ?_⟩
            · unfold rlines; rw [HE.out]; simp [hcur]
            · unfold rdAll rlong; rw [HE.out]; simp
            · unfold rdErr rlong; rw [HE.out]; simp
          have HFIN := Lib.hid hfin; clear hfin
          have hsl0 : (s : Int) < b.length := by omega
          have hcv : (convert 22 9 (.slice (subA a cap s 1) cur.length (cap - s))).run Tryd.prog wr.drew = .ok (.string ⟨cur.toArray⟩) wr.drew := by
            have h0 : At wr (subA a cap s 1) (cur.map bv) := by
              have := ((HR.out.fr HD.out.fr (fun _ _ _ _ _ _ x => x)).sub (cap := cap) (lo := s) (by simpa using hc)).take cur.length
              rw [HD.out.curE, List.map_take, List.map_drop]; exact this
            exact conv_at (P := Tryd.prog) (cap := cap - s) (h0.fr (Fr.refl No wr).drew (fun _ _ _ _ _ _ x => x)) (src := 22) (dst := 9) Tryd.underlying22 Tryd.underlying5 Tryd.underlying9
          obtain ⟨j0, hj, jz0, jz1, jz2⟩ := info_parts Tryd.info5
          have hsl : ∀ W : World, (Instr.slice 22 (.slice a b.length cap) (some (.int .i64 s)) none none).run Tryd.prog W = .ok (.slice (subA a cap s 1) cur.length (cap - s)) W := fun W => by
            have := run_slice_from W 22 5 a b.length cap s j0 Tryd.underlying22 hj (by omega)
            rwa [jz1, show b.length - s = cur.length from by omega] at this
          have hsc : (s : Int) ≤ cap := by omega
          go_wp2_with fail
          go_region_law (refine step_append_sl rfl (.tmp 48) (.tmp 54) 49 49 rfl 9 i0 (.string ⟨#[]⟩) 1 16 Tryd.underlying49 hi hz0 hz1 hz2 rfl (by decide) (.slice va acc.length vc) acc.length (acc.map sv) rfl (HD.out.own.fr ((Fr.refl No wr).drew.alloc _) (fun _ _ _ x => x)) _ 1 [sv cur] rfl (src_slice Tryd.underlying49 rfl (fun _ => ⟨wr.heap.size, 0, rfl, row_at wr.drew #[sv cur] _ rfl _ rfl 9 (0, 0)⟩) (by simp [Value.oneCell'])) (by have := HD.out.al; omega) (by have := HD.out.al; omega) ?_
                         intro v1 w1 hown1 hfr1 hblk1
                         obtain ⟨a1, c1, hv1, hat1, hc1⟩ := hown1.at
                         subst hv1
                         have fa : Fr (Blk (.slice va acc.length vc)) wr w1 := ((Fr.refl (Blk (.slice va acc.length vc)) wr).drew.alloc _).trans hfr1
                         have rd1 := (fa.block _ hgl (fun _ h => by have := HD.out.new _ h; omega)).trans HD.out.rd
                         obtain ⟨e0, e1, e2, e3, e4, ez⟩ := rd_cells rd1)
          all_goals
            have nw : ∀ y, (Value.slice a1 (acc.length + 1) c1).ownBlock = some y → w.heap.size + 1 + 1 < y := fun y e => by
              rcases hblk1 with h | h
              · rw [h] at e; exact HD.out.new y e
              · rw [h] at e; injection e with e; simp at e; omega
            have HFA := Lib.hid fa; have HA1 := Lib.hid hat1; have HC1 := Lib.hid hc1
            clear hown1 hfr1 hblk1 fa hat1 hc1
            have hres3 : ((w1.setCell ⟨w.heap.size + 1 + 1, 0, none⟩ (.slice a1 (acc.length + 1) c1)).setCell ⟨w.heap.size + 1 + 1, 1, none⟩ (.bool true)).heap[w.heap.size + 1]? = some (.cells (rdC (.slice none 0 0) false 0 0 0) 93 (0, 0)) := (heap_setCell_other _ _ _ _ (by simp)).trans ((heap_setCell_other _ _ _ _ (by simp)).trans ((HFA.out.block _ (by omega) (fun _ h => by have := HD.out.new _ h; omega)).trans HD.out.res))
            have HRES := Lib.hid hres3; clear hres3
            go_wp2_with (first
              | (refine wpList_store_row rfl 93 (.tmp 2) (.tmp 58) rfl (w.heap.size + 1) (rdC (.slice a1 (acc.length + 1) c1) true 0 0 0) rfl rfl 93 (rdC (.slice none 0 0) false 0 0 0) HRES.out HSZ.out rfl (by simp [rdC, Value.oneCell']) ?_))
            refine bodyPost_ret (results_cell_row (p := 2) (ty := 93) (by kernel_rfl) _ _ (w.heap.size + 1) 93 (rdC (.slice a1 (acc.length + 1) c1) true 0 0 0) (0, 0) _ rfl (setRow_heap _ (w.heap.size + 1) _ _ 93 _ HRES.out) Tryd.underlying93 rfl HSZ.out) rfl ?_
            have fz : Fr (fun y _ => y = w.heap.size + 1 ∨ y = w.heap.size + 1 + 1) w1 (((w1.setCell ⟨w.heap.size + 1 + 1, 0, none⟩ (.slice a1 (acc.length + 1) c1)).setCell ⟨w.heap.size + 1 + 1, 1, none⟩ (.bool true)).setRow (w.heap.size + 1) (rdC (.slice a1 (acc.length + 1) c1) true 0 0 0)) :=
              (((Fr.refl _ w1).setCell (fun _ => .inr rfl) _).setCell (fun _ => .inr rfl) _).setRow _ _ (fun _ _ => .inl rfl)
            obtain ⟨h1, h2, h3⟩ := HFIN.out
            rw [h1, h2, h3]
            refine ⟨a1, c1, by simp, ?_, (HD.out.fr.step HFA.out (fun y o hy h => by have := HD.out.new _ h; omega)).step fz (fun y o hy h => by omega), by rw [List.length_append]; exact HC1.out⟩
            have := HA1.out.fr fz (fun y o e _ i _ h => by have := nw y (by rw [e]; rfl); omega)
            simpa using this
end Go.Proofs.YtjnebkoohimgjaaDoor

/- The laws' guards: heavy, fit. -/
namespace Go.Proofs.YtjnebkoohimgjaaDoor
open Go.RowKit

/-- Slices of numbers in a row: where, how many, the capacity. -/
def ccells (l : List (Option Addr × Nat × Nat)) : List Value := l.map fun x => .slice x.1 x.2.1 x.2.2
def heavyB (A B : List UInt8) (ss : List Strm) (cs : List (Option Addr × Nat × Nat)) : Bool :=
  decide (1000 < A.length ∨ 1000 < B.length ∨ 8 < ss.length ∨ (∃ s ∈ ss, 2000 < s.b.length) ∨ (∃ c ∈ cs, 3000 < c.2.1))
set_option maxHeartbeats 4000000 in
set_option maxRecDepth 100000 in
theorem heavy_any (k n : Int) (aA aB ai ac : Option Addr) (A B : List UInt8) (cA cB ci cc : Nat) (ss : List Strm) (cs : List (Option Addr × Nat × Nat)) (w : World) (hs : At w ai (scells ss)) (hc : At w ac (ccells cs)) (hcl : cs.length ≤ 10) :
    Calls Tryd.prog 9 #[.agg #[.int .i64 k, .int .i64 n, .slice aA A.length cA, .slice aB B.length cB], .slice ai ss.length ci, .slice ac cs.length cc] w (RPost w (heavyB A B ss cs)) := by
  have HS := Lib.hid (at_no hs ((Fr.refl No w).alloc (.cells #[.int .i64 k, .int .i64 n, .slice aA A.length cA, .slice aB B.length cB] 24)))
  have HC := Lib.hid (at_no hc ((Fr.refl No w).alloc (.cells #[.int .i64 k, .int .i64 n, .slice aA A.length cA, .slice aB B.length cB] 24)))
  clear hs hc
  by_cases h1 : 1000 < A.length
  · have e : heavyB A B ss cs = true := by simp [heavyB, h1]
    rw [e]; clear e
    have h1' : (1000 : Int) < A.length := by omega
    clear h1
    go_enter Tryd.func9, Tryd.ntmps9
    go_wp2
    go_ret
    exact ⟨rfl, (Fr.refl _ _).alloc _⟩
  have h1' : ¬ (1000 : Int) < A.length := by omega
  by_cases h2 : 1000 < B.length
  · have e : heavyB A B ss cs = true := by simp [heavyB, h2]
    rw [e]; clear e
    have h2' : (1000 : Int) < B.length := by omega
    clear h2 h1
    go_enter Tryd.func9, Tryd.ntmps9
    go_wp2
    go_ret
    exact ⟨rfl, (Fr.refl _ _).alloc _⟩
  have h2' : ¬ (1000 : Int) < B.length := by omega
  by_cases h3 : 8 < ss.length
  · have e : heavyB A B ss cs = true := by simp [heavyB, h3]
    rw [e]; clear e
    have h3' : (8 : Int) < ss.length := by omega
    clear h3 h2 h1
    go_enter Tryd.func9, Tryd.ntmps9
    go_wp2
    go_ret
    exact ⟨rfl, (Fr.refl _ _).alloc _⟩
  have h3' : ¬ (8 : Int) < ss.length := by omega
  have HT1 : Hid (∀ s ∈ ss, 2000 < s.b.length → heavyB A B ss cs = true) := Lib.hid (fun s hs h => by unfold heavyB; simp only [decide_eq_true_eq]; exact .inr (.inr (.inr (.inl ⟨s, hs, h⟩))))
  have HT2 : Hid (∀ c ∈ cs, 3000 < c.2.1 → heavyB A B ss cs = true) := Lib.hid (fun c hc h => by unfold heavyB; simp only [decide_eq_true_eq]; exact .inr (.inr (.inr (.inr ⟨c, hc, h⟩))))
  have HF : Hid ((∀ s ∈ ss, ¬ 2000 < s.b.length) → (∀ c ∈ cs, ¬ 3000 < c.2.1) → heavyB A B ss cs = false) := Lib.hid (fun ha hb => by
    unfold heavyB; simp only [decide_eq_false_iff_not]
    rintro (h | h | h | ⟨s, hs, h⟩ | ⟨c, hc, h⟩)
    · exact h1 h
    · exact h2 h
    · exact h3 h
    · exact ha s hs h
    · exact hb c hc h)
  have hss : ss.length ≤ 8 := by omega
  clear h1 h2 h3
  generalize heavyB A B ss cs = r at *
  go_enter Tryd.func9, Tryd.ntmps9
  go_wp2
  go_loop [7] (fun i => ∃ j : Nat, j ≤ ss.length ∧ i = .int .i64 j ∧ Hid (∀ s ∈ ss.take j, ¬ 2000 < s.b.length)) (fun i => ss.length - (intOf i).toNat)
  case atStart => exact ⟨0, Nat.zero_le _, rfl, Lib.hid (by simp)⟩
  case round =>
    obtain ⟨j, hj, rfl, HJ⟩ := hrel
    by_cases hlt : j < ss.length
    · have hji : (j : Int) < ss.length := by omega
      obtain ⟨g, off, rfl, hrow⟩ := HS.out (by rw [scells_length]; omega)
      have hcell := hrow.get (j * 5 + 0) _ (scells_get ss j 0 hlt _ rfl)
      rw [Nat.add_zero] at hcell
      by_cases hb : 2000 < ss[j].b.length
      · have hr := HT1.out ss[j] (List.getElem_mem _) hb
        have hb' : (2000 : Int) < ss[j].b.length := by omega
        have HR := Lib.hid hr; clear hr
        generalize ss[j] = x at *
        clear hb
        go_wp2
        go_ret
        rw [HR.out]
        exact ⟨rfl, (Fr.refl _ _).alloc _⟩
      · have htk : ss.take (j + 1) = ss.take j ++ [ss[j]] := List.take_succ_eq_append_getElem hlt
        have hb' : ¬ (2000 : Int) < ss[j].b.length := by omega
        have HK := Lib.hid htk; clear htk
        have HB := Lib.hid hb; clear hb
        generalize ss[j] = x at *
        go_wp2
        go_round
        case rel =>
          refine ⟨j + 1, by omega, by go_num, Lib.hid (fun s hs => ?_)⟩
          rw [HK.out] at hs
          rcases List.mem_append.1 hs with h | h
          · exact HJ.out s h
          · simp at h; subst h; exact HB.out
        case measure => simp [intOf]; omega
    · obtain rfl : j = ss.length := by omega
      rw [List.take_length] at HJ
      go_wp2
      go_loop [8] (fun i => ∃ q : Nat, q ≤ cs.length ∧ i = .int .i64 q ∧ Hid (∀ c ∈ cs.take q, ¬ 3000 < c.2.1)) (fun i => cs.length - (intOf i).toNat)
      case atStart => exact ⟨0, Nat.zero_le _, rfl, Lib.hid (by simp)⟩
      case round =>
        obtain ⟨q, hq, rfl, HQ⟩ := hrel
        by_cases hqt : q < cs.length
        · have hqi : (q : Int) < cs.length := by omega
          obtain ⟨g, off, rfl, hrow⟩ := HC.out (by simp [ccells]; omega)
          have hcell := hrow.get q (.slice cs[q].1 cs[q].2.1 cs[q].2.2) (by simp [ccells, hqt])
          by_cases hb : 3000 < cs[q].2.1
          · have hr := HT2.out cs[q] (List.getElem_mem _) hb
            have hb' : (3000 : Int) < cs[q].2.1 := by omega
            have HR := Lib.hid hr; clear hr
            generalize cs[q] = x at *
            clear hb
            go_wp2
            go_ret
            rw [HR.out]
            exact ⟨rfl, (Fr.refl _ _).alloc _⟩
          · have htk : cs.take (q + 1) = cs.take q ++ [cs[q]] := List.take_succ_eq_append_getElem hqt
            have hb' : ¬ (3000 : Int) < cs[q].2.1 := by omega
            have HK := Lib.hid htk; clear htk
            have HB := Lib.hid hb; clear hb
            generalize cs[q] = x at *
            go_wp2
            go_round
            case rel =>
              refine ⟨q + 1, by omega, by go_num, Lib.hid (fun s hs => ?_)⟩
              rw [HK.out] at hs
              rcases List.mem_append.1 hs with h | h
              · exact HQ.out s h
              · simp at h; subst h; exact HB.out
            case measure => simp [intOf]; omega
        · obtain rfl : q = cs.length := by omega
          rw [List.take_length] at HQ
          have hr := HF.out HJ.out HQ.out
          have HR := Lib.hid hr; clear hr
          go_wp2
          go_ret
          rw [HR.out]
          exact ⟨rfl, (Fr.refl _ _).alloc _⟩
/-- May they be parameters of kind K, with as many inputs? -/
def fitB (K k n : Int) (A B : List UInt8) (l : Nat) : Bool := decide (chkR k n A B = 0 ∧ k = K ∧ (l : Int) = insR k n A B)
end Go.Proofs.YtjnebkoohimgjaaDoor

/- The laws' guard fit. -/
namespace Go.Proofs.YtjnebkoohimgjaaDoor
open Go.RowKit

set_option maxRecDepth 100000 in
theorem fit_any (k n : Int) (aA aB ai : Option Addr) (A B : List UInt8) (cA cB l ci : Nat) (w : World) (hA : At w aA (A.map bv)) (hl : A.length ≤ 100000000) (hl2 : B.length ≤ 100000000) :
    Calls Tryd.prog 10 #[.agg #[.int .i64 k, .int .i64 n, .slice aA A.length cA, .slice aB B.length cB], .slice ai l ci] w (RPost w (fitB 7 k n A B l)) := by
  have hc := fun (W : World) (hW : Fr No w W) => rarity_any k n aA aB A B cA cB W (at_no hA hW) hl hl2
  unfold fitB
  generalize chkR k n A B = r at *
  generalize insR k n A B = i at *
  generalize outsR k n A B = o at *
  have HC := Lib.hid hc; clear hc
  by_cases h1 : r = 0
  · by_cases h2 : k = 7
    · by_cases h3 : (l : Int) = i
      · rw [show decide (r = 0 ∧ k = 7 ∧ (l : Int) = i) = true from by simp [h1, h2, h3]]
        have h1b : (r == 0) = true := by simp [h1]
        have h2b : (k == 7) = true := by simp [h2]
        have h3b : ((l : Int) == i) = true := by simp [h3]
        clear h1 h2 h3
        go_enter Tryd.func10, Tryd.ntmps10
        go_wp2_with (go_at_call 25; refine (HC.out _ ((Fr.refl No w).alloc _)).mono ?_; rintro e1 w1 ⟨rfl, hfr1⟩; obtain ⟨b1, z1⟩ := box_at hfr1; have b10 := b1 0)
        go_ret
        exact ⟨rfl, ((Fr.refl _ _).alloc _).trans hfr1⟩
      · rw [show decide (r = 0 ∧ k = 7 ∧ (l : Int) = i) = false from by simp [h3]]
        have h1b : (r == 0) = true := by simp [h1]
        have h2b : (k == 7) = true := by simp [h2]
        have h3b : ((l : Int) == i) = false := by simpa using h3
        clear h1 h2 h3
        go_enter Tryd.func10, Tryd.ntmps10
        go_wp2_with (go_at_call 25; refine (HC.out _ ((Fr.refl No w).alloc _)).mono ?_; rintro e1 w1 ⟨rfl, hfr1⟩; obtain ⟨b1, z1⟩ := box_at hfr1; have b10 := b1 0)
        go_ret
        exact ⟨rfl, ((Fr.refl _ _).alloc _).trans hfr1⟩
    · rw [show decide (r = 0 ∧ k = 7 ∧ (l : Int) = i) = false from by simp [h2]]
      have h1b : (r == 0) = true := by simp [h1]
      have h2b : (k == 7) = false := by simpa using h2
      clear h1 h2
      go_enter Tryd.func10, Tryd.ntmps10
      go_wp2_with (go_at_call 25; refine (HC.out _ ((Fr.refl No w).alloc _)).mono ?_; rintro e1 w1 ⟨rfl, hfr1⟩; obtain ⟨b1, z1⟩ := box_at hfr1; have b10 := b1 0)
      go_ret
      exact ⟨rfl, ((Fr.refl _ _).alloc _).trans hfr1⟩
  · rw [show decide (r = 0 ∧ k = 7 ∧ (l : Int) = i) = false from by simp [h1]]
    have h1b : (r == 0) = false := by simpa using h1
    clear h1
    go_enter Tryd.func10, Tryd.ntmps10
    go_wp2_with (go_at_call 25; refine (HC.out _ ((Fr.refl No w).alloc _)).mono ?_; rintro e1 w1 ⟨rfl, hfr1⟩; obtain ⟨b1, z1⟩ := box_at hfr1; have b10 := b1 0)
    go_ret
    exact ⟨rfl, ((Fr.refl _ _).alloc _).trans hfr1⟩
/-- What fit parameters are. -/
theorem fit_says (k n : Int) (A B : List UInt8) (l : Nat) (hn : n ≤ 9223372036854775807) (h : fitB 7 k n A B l = true) : k = 7 ∧ l = 1 ∧ chkR 7 n A B = 0 ∧ fchk 7 7 n A B = 0 := by
  simp only [fitB, decide_eq_true_eq] at h
  obtain ⟨h1, rfl, h3⟩ := h
  have hi : insR 7 n A B = 1 := by unfold insR; rw [if_neg (by simp [h1])]; rfl
  have hc := (agree 7 n A B hn).1
  exact ⟨rfl, by omega, h1, by unfold fchk; rw [hc, h1]; simp⟩
end Go.Proofs.YtjnebkoohimgjaaDoor

/- The meanings' told: what comes of one input that has ended. -/
namespace Go.Proofs.YtjnebkoohimgjaaDoor
open Go.RowKit

theorem info_told : (Tryd.prog.info? 37).map (fun i => (i.zero, i.size, i.bytes)) = some (some (.agg #[.slice none 0 0, .bool false, .int .i64 0, .int .i64 0, .int .i64 0]), 5, 56) := by kernel_rfl
theorem results_cell_tmp_row {P : Program} {fn : Func} {p u : Tmp} {ty : TypeId} (h : fn.results = #[.cell p ty, .tmp u]) (tmps : Array Value) (w : World) (g : Nat) (t : TypeId) (cs : Array Value) (fr : Nat × Nat) (d : TypeDesc) (v2 : Value)
    (hp : tmps.getD p undef = .pointer (some ⟨g, 0, none⟩)) (hv : tmps.getD u undef = v2) (hg : w.heap[g]? = some (.cells cs t fr)) (hu : P.underlying ty = some d) (hd : (match d with | .struct _ | .array _ _ => true | _ => false) = true) (hi : (P.info? ty).map (·.size) = some cs.size) :
    (results fn tmps).run P w = .ok (.tuple #[.agg cs, v2]) w := by
  rw [results_cell_tmp h, hp, hv]
  simp [asAddr, Result.andThen, run_loadVar_row w g t ty cs fr d hg hu hd hi]
def ToldPost (o : List UInt8) (w : World) (e : Ending) (w' : World) : Prop :=
  ∃ (held : Int) (taken : Nat), e = .returned (.tuple #[.agg (gotC o (-1) 0 held taken), .bool true]) ∧ Fr No w w'
set_option maxHeartbeats 4000000 in
set_option maxRecDepth 100000 in
theorem told_fine (n : Int) (aA aB : Option Addr) (A B : List UInt8) (cA cB : Nat) (w : World) (hG : GM w) (hA : At w aA (A.map bv)) (hB : At w aB (B.map bv)) (hlA : A.length ≤ 100000000) (hlB : B.length ≤ 100000000) (hck : chkR 7 n A B = 0) (hfk : fchk 7 7 n A B = 0)
    (ca : Option Addr) (cc : Nat) (cuts : List Int) (hc : At w ca (cuts.map iv)) (hcl : cuts.length ≤ 100000) (gi ci : Nat) (ia : Option Addr) (ic : Nat) (b : List UInt8) (hin : w.cell? ⟨gi, 0, none⟩ = some (.slice ia b.length ic)) (hb : At w ia (b.map bv)) (hbl : b.length ≤ 90000) (hbc : b.length ≤ ic)
    (o : List UInt8) (hsay : saysM n A B b true = (o, -1, 0)) :
    Calls Tryd.prog 17 #[.agg #[.int .i64 7, .int .i64 n, .slice aA A.length cA, .slice aB B.length cB], .slice ca cuts.length cc, .slice (some ⟨gi, 0, none⟩) 1 ci] w (ToldPost o w) := by
  obtain ⟨i0, hi, hz0, hz1, hz2⟩ := info_parts info_told
  have HG0 := Lib.hid hG; clear hG
  have HA := Lib.hid hA; have HB := Lib.hid hB; have HC := Lib.hid hc; have HI := Lib.hid hb; have HCK := Lib.hid hck; have HFK := Lib.hid hfk; have HSAY := Lib.hid hsay
  have hgil := World.block_lt_of_cell? w _ hin
  have HIN := Lib.hid (fun (W : World) (f : Fr No w W) => (f.at.1 gi 0 hgil).trans hin)
  have hsz : (Tryd.prog.info? 45).map (·.size) = some 12 := by kernel_rfl
  have HSZ := Lib.hid hsz
  clear hA hB hc hb hck hfk hsay hin hsz
  have HW0 := Lib.hid (((Fr.refl No w).alloc (.cells #[.int .i64 7, .int .i64 n, .slice aA A.length cA, .slice aB B.length cB] 24)).alloc (.cells (gotC [] 0 0 0 0) 45))
  have HBX := Lib.hid (fun (W : World) (f : Fr No ((w.alloc (.cells #[.int .i64 7, .int .i64 n, .slice aA A.length cA, .slice aB B.length cB] 24)).alloc (.cells (gotC [] 0 0 0 0) 45)) W) =>
    (show (W.cell? ⟨w.heap.size, 0, none⟩ = some (.int .i64 7) ∧ W.cell? ⟨w.heap.size, 1, none⟩ = some (.int .i64 n) ∧ W.cell? ⟨w.heap.size, 2, none⟩ = some (.slice aA A.length cA) ∧ W.cell? ⟨w.heap.size, 3, none⟩ = some (.slice aB B.length cB)) ∧ W.heap[w.heap.size + 1]? = some (.cells (gotC [] 0 0 0 0) 45) from
      have x1 := (box_at (((Fr.refl No _).alloc _).trans f)).1
      ⟨⟨x1 0, x1 1, x1 2, x1 3⟩, by have := box_block f; simpa using this⟩))
  go_enter Tryd.func17, Tryd.ntmps17
  go_wp2
  go_loopw [8, 9] (fun v i wr => (i = .int .i64 0 ∧ v = .slice none 0 0 ∧ Hid (Fr No ((w.alloc (.cells #[.int .i64 7, .int .i64 n, .slice aA A.length cA, .slice aB B.length cB] 24)).alloc (.cells (gotC [] 0 0 0 0) 45)) wr)) ∨ (i = .int .i64 1 ∧ ∃ g off cl, v = .slice (some ⟨g, off, none⟩) 1 cl ∧ Hid (Row wr g off (strmC ia b ic true 0 0 0)) ∧ Hid (Fr No ((w.alloc (.cells #[.int .i64 7, .int .i64 n, .slice aA A.length cA, .slice aB B.length cB] 24)).alloc (.cells (gotC [] 0 0 0 0) 45)) wr))) (fun _ i _ => 1 - (intOf i).toNat)
  case atStart => exact .inl ⟨rfl, rfl, Lib.hid (Fr.refl _ _)⟩
  case round =>
    rcases hrel with ⟨rfl, rfl, HF⟩ | ⟨rfl, gs, os, cl, rfl, HR, HF⟩
    · have c0 := HIN.out _ (HW0.out.trans HF.out)
      go_wp2_with (first
        | (at_builtin; refine wpList_append_sl rfl (.tmp 19) (.tmp 25) 25 25 rfl 37 i0 (.agg #[.slice none 0 0, .bool false, .int .i64 0, .int .i64 0, .int .i64 0]) 5 56 Tryd.underlying25 hi hz0 hz1 hz2 rfl (by decide) (.slice none 0 0) 0 [] rfl (OwnSl.nil _ _ _) _ 1 (strmC ia b ic true 0 0 0) rfl (src_slice Tryd.underlying25 rfl (fun _ => ⟨wr.heap.size, 0, rfl, row_at wr _ _ rfl _ rfl 37 (0, 0)⟩) (by simp [strmC, Value.oneCell'])) (by omega) (by omega) ?_
           intro v3 w3 hown3 hfr3 hblk3
           have HO3 := Lib.hid hown3; have HF3 := Lib.hid hfr3
           clear hown3 hfr3 hblk3))
      go_roundw
      case rel =>
        have h3 := HO3.out
        rw [Nat.zero_add, List.nil_append] at h3
        rcases h3.2 with ⟨_, h0⟩ | ⟨g, off, cl, cur, rfl, hg, h1, h2, h4, hr⟩
        · cases h0
        · exact .inr ⟨by go_num, g, off, cl, rfl, Lib.hid hr, Lib.hid ((HF.out.alloc _).step HF3.out (fun x o hx h => by simp [Blk, Value.ownBlock] at h))⟩
      case measure => simp [intOf]
    · have KW := Lib.hid (HW0.out.trans HF.out)
      obtain ⟨⟨p0, p1, p2, p3⟩, _⟩ := HBX.out _ HF.out
      have hgsl := HR.out.lt (by simp [strmC])
      go_wp2_with (first
        | (go_at_call 20; refine (copy_any 7 n aA aB A B cA cB _ (at_no HA.out KW.out) (at_no HB.out KW.out) hlA hlB).mono ?_; rintro e4 w4 ⟨a', c', b', d', rfl, ha', hb', hf4⟩
           have HA' := Lib.hid ha'; have HB' := Lib.hid hb'; have HF4 := Lib.hid hf4; clear ha' hb' hf4)
        | (go_at_call 13; refine (newM_yes n a' b' A B c' d' _ HA'.out HB'.out hlA hlB HFK.out (HG0.out.no (KW.out.trans HF4.out))).mono ?_; rintro e5 w5 ⟨g, F, rfl, hg, hr5, hf5⟩
           have HR5 := Lib.hid hr5; have HF5 := Lib.hid hf5; have HG := Lib.hid hg; clear hr5 hf5 hg)
        | (go_at_call 14; refine (drive_M g n A B HCK.out gs os cl ia ic b true 0 0 0 ca cc cuts F _ HR5.out (HR.out.fr (HF4.out.trans HF5.out) (fun _ _ x => x)) (fun e => by have h5 := HG.out _ e; have h6 := HF4.out.size; omega)
              (at_no HI.out ((KW.out.trans HF4.out).trans HF5.out)) (fun h0 x off e hF => by obtain ⟨x', o', e', hr⟩ := HI.out (by simpa using h0); rw [e'] at e; injection e with e; injection e with e; subst e; have h1 := hr.lt (by simpa using h0); have h2 := KW.out.size; have h3 := HF4.out.size; have h5 := HG.out _ hF; omega) hbl hbc
              (at_no HC.out ((KW.out.trans HF4.out).trans HF5.out)) (fun h0 x off e hF => by obtain ⟨x', o', e', hr⟩ := HC.out (by simpa using h0); rw [e'] at e; injection e with e; injection e with e; subst e; have h1 := hr.lt (by simpa using h0); have h2 := KW.out.size; have h3 := HF4.out.size; have h5 := HG.out _ hF; omega) hcl).mono ?_
           rw [HSAY.out]
           rintro e6 w6 ⟨held, taken, s', F', rfl, h0, hH, hr6, hf6, _⟩
           dsimp only [gotC]
           have hsz6 := hf6.size
           have HG6 := Lib.hid (show w6.heap[w.heap.size + 1]? = some (.cells (gotC [] 0 0 0 0) 45) from
             have hk := HF.out.size
             have hk4 := HF4.out.size
             (hf6.block _ (by have := HF5.out.size; simp at hk; omega) (fun _ e => by have h5 := HG.out _ e; simp at hk; omega)).trans (HBX.out _ ((HF.out.trans HF4.out).trans HF5.out)).2)
           have KW6 := Lib.hid (show Fr No w w6 from ((KW.out.trans HF4.out).trans HF5.out).step hf6 (fun y o hy e => by have h5 := HG.out _ e; have h2 := KW.out.size; have h3 := HF4.out.size; omega))
           have hwl : w.heap.size + 1 < w6.heap.size := (by have hk := HF.out.size; have hk4 := HF4.out.size; have hk5 := HF5.out.size; simp at hk; omega)
           clear hr6 hf6))
      have H12 := Lib.hid (fun (W : World) (f : Fr No (w6.alloc (.cells (gotC o (-1) 0 held taken) 45)) W) => (show W.cell? ⟨w6.heap.size, 0, none⟩ = some (sv o) ∧ W.cell? ⟨w6.heap.size, 1, none⟩ = some (sv []) ∧ W.cell? ⟨w6.heap.size, 2, none⟩ = some (sv []) ∧ W.cell? ⟨w6.heap.size, 3, none⟩ = some (sv []) ∧ W.cell? ⟨w6.heap.size, 4, none⟩ = some (.int .i64 (-1)) ∧ W.cell? ⟨w6.heap.size, 5, none⟩ = some (.int .i64 0) ∧ W.cell? ⟨w6.heap.size, 6, none⟩ = some (.int .i64 held) ∧ W.cell? ⟨w6.heap.size, 7, none⟩ = some (.int .i64 taken) ∧ W.cell? ⟨w6.heap.size, 8, none⟩ = some (.int .i64 0) ∧ W.cell? ⟨w6.heap.size, 9, none⟩ = some (.int .i64 0) ∧ W.cell? ⟨w6.heap.size, 10, none⟩ = some (.int .i64 0) ∧ W.cell? ⟨w6.heap.size, 11, none⟩ = some (.bool false) from
        have x2 := (box_at f).1
        ⟨x2 0, x2 1, x2 2, x2 3, x2 4, x2 5, x2 6, x2 7, x2 8, x2 9, x2 10, x2 11⟩))
      have K6 := Lib.hid (KW6.out.alloc (.cells (gotC o (-1) 0 held taken) 45))
      have R6 : (w6.alloc (.cells (gotC o (-1) 0 held taken) 45)).drew.heap[w.heap.size + 1]? = some (.cells (gotC [] 0 0 0 0) 45 (0, 0)) := ((((Fr.refl No w6).alloc (.cells (gotC o (-1) 0 held taken) 45)).drew).block _ hwl (fun _ x => x)).trans HG6.out
      have HR6 := Lib.hid R6; clear R6
      have hS0 := H12.out _ (Fr.refl _ _).drew
      refine wp_region_noPanic ?_
      refine wp_region_held_drew (S := fun W => W.cell? ⟨w6.heap.size, 0, none⟩ = some (sv o) ∧ W.cell? ⟨w6.heap.size, 1, none⟩ = some (sv []) ∧ W.cell? ⟨w6.heap.size, 2, none⟩ = some (sv []) ∧ W.cell? ⟨w6.heap.size, 3, none⟩ = some (sv []) ∧ W.cell? ⟨w6.heap.size, 4, none⟩ = some (.int .i64 (-1)) ∧ W.cell? ⟨w6.heap.size, 5, none⟩ = some (.int .i64 0) ∧ W.cell? ⟨w6.heap.size, 6, none⟩ = some (.int .i64 held) ∧ W.cell? ⟨w6.heap.size, 7, none⟩ = some (.int .i64 taken) ∧ W.cell? ⟨w6.heap.size, 8, none⟩ = some (.int .i64 0) ∧ W.cell? ⟨w6.heap.size, 9, none⟩ = some (.int .i64 0) ∧ W.cell? ⟨w6.heap.size, 10, none⟩ = some (.int .i64 0) ∧ W.cell? ⟨w6.heap.size, 11, none⟩ = some (.bool false)) (by kernel_rfl) hS0 (fun hHeld => ?_)
      refine wpAnyH_take (i := 0) (oi := { dst := some 44, op := Op.load 45 (Operand.tmp 12), type := 45, pos := "meaning.go:21", after := #[], guard := none }) (v := ?_) rfl (by kernel_rfl) (by kernel_rfl) (by kernel_rfl) (fun _ _ _ h => h) (Or.inl ⟨by rfl, ?_⟩) (by assumption) ?_
      rotate_left
      · intro W hSw
        obtain ⟨s0, s1, s2, s3, s4, s5, s6, s7, s8, s9, s10, s11⟩ := hSw
        go_simp
        try with_reducible rfl
      simp only [Act.put, List.setIfInBounds_toArray, List.set_cons_zero, List.set_cons_succ]
      refine wpAnyH_take (i := 1) (oi := { dst := some 45, op := Op.fieldAddr 45 (Operand.tmp 12) 2, type := 0, pos := "meaning.go:21", after := #[], guard := none }) (v := ?_) rfl (by kernel_rfl) (by kernel_rfl) (by kernel_rfl) (fun _ _ _ h => h) (Or.inl ⟨by rfl, ?_⟩) (by assumption) ?_
      rotate_left
      · intro W hSw
        obtain ⟨s0, s1, s2, s3, s4, s5, s6, s7, s8, s9, s10, s11⟩ := hSw
        go_simp
        try with_reducible rfl
      simp only [Act.put, List.setIfInBounds_toArray, List.set_cons_zero, List.set_cons_succ]
      refine wpAnyH_take (i := 2) (oi := { dst := some 46, op := Op.load 33 (Operand.tmp 45), type := 33, pos := "meaning.go:21", after := #[{ on := 1, ground := Ground.data }], guard := none }) (v := ?_) rfl (by kernel_rfl) (by kernel_rfl) (by kernel_rfl) (fun _ _ _ h => h) (Or.inl ⟨by rfl, ?_⟩) (by assumption) ?_
      rotate_left
      · intro W hSw
        obtain ⟨s0, s1, s2, s3, s4, s5, s6, s7, s8, s9, s10, s11⟩ := hSw
        go_simp
        try with_reducible rfl
      simp only [Act.put, List.setIfInBounds_toArray, List.set_cons_zero, List.set_cons_succ]
      refine wpAnyH_take (i := 3) (oi := { dst := some 47, op := Op.binOp BinOp.eql 33 (Operand.tmp 46) (Operand.const (Value.int IntKind.i64 0)) 33, type := 4, pos := "meaning.go:21", after := #[{ on := 2, ground := Ground.data }], guard := none }) (v := ?_) rfl (by kernel_rfl) (by kernel_rfl) (by kernel_rfl) (fun _ _ _ h => h) (Or.inl ⟨by rfl, ?_⟩) (by assumption) ?_
      rotate_left
      · intro W hSw
        obtain ⟨s0, s1, s2, s3, s4, s5, s6, s7, s8, s9, s10, s11⟩ := hSw
        go_simp
        try with_reducible rfl
      simp only [Act.put, List.setIfInBounds_toArray, List.set_cons_zero, List.set_cons_succ]
      refine wpAnyH_take (i := 4) (oi := { dst := some 48, op := Op.move (Operand.tmp 47), type := 4, pos := "meaning.go:21", after := #[{ on := 3, ground := Ground.data }], guard := none }) (v := ?_) rfl (by kernel_rfl) (by kernel_rfl) (by kernel_rfl) (fun _ _ _ h => h) (Or.inl ⟨by rfl, ?_⟩) (by assumption) ?_
      rotate_left
      · intro W hSw
        obtain ⟨s0, s1, s2, s3, s4, s5, s6, s7, s8, s9, s10, s11⟩ := hSw
        go_simp
        try with_reducible rfl
      simp only [Act.put, List.setIfInBounds_toArray, List.set_cons_zero, List.set_cons_succ]
      refine wpAnyH_take (i := 5) (oi := { dst := some 49, op := Op.fieldAddr 45 (Operand.tmp 12) 1, type := 0, pos := "meaning.go:21", after := #[{ on := 4, ground := Ground.guard }], guard := some (4, true) }) (v := ?_) rfl (by kernel_rfl) (by kernel_rfl) (by kernel_rfl) (fun _ _ _ h => h) (Or.inl ⟨by rfl, ?_⟩) (by assumption) ?_
      rotate_left
      · intro W hSw
        obtain ⟨s0, s1, s2, s3, s4, s5, s6, s7, s8, s9, s10, s11⟩ := hSw
        go_simp
        try with_reducible rfl
      simp only [Act.put, List.setIfInBounds_toArray, List.set_cons_zero, List.set_cons_succ]
      refine wpAnyH_take (i := 6) (oi := { dst := some 50, op := Op.load 3 (Operand.tmp 49), type := 3, pos := "meaning.go:21", after := #[{ on := 5, ground := Ground.data }, { on := 4, ground := Ground.guard }], guard := some (4, true) }) (v := ?_) rfl (by kernel_rfl) (by kernel_rfl) (by kernel_rfl) (fun _ _ _ h => h) (Or.inl ⟨by rfl, ?_⟩) (by assumption) ?_
      rotate_left
      · intro W hSw
        obtain ⟨s0, s1, s2, s3, s4, s5, s6, s7, s8, s9, s10, s11⟩ := hSw
        go_simp
        try with_reducible rfl
      simp only [Act.put, List.setIfInBounds_toArray, List.set_cons_zero, List.set_cons_succ]
      refine wpAnyH_take (i := 7) (oi := { dst := some 51, op := Op.binOp BinOp.eql 3 (Operand.tmp 50) (Operand.const (Value.int IntKind.i64 (-1))) 3, type := 4, pos := "meaning.go:21", after := #[{ on := 6, ground := Ground.data }, { on := 4, ground := Ground.guard }], guard := some (4, true) }) (v := ?_) rfl (by kernel_rfl) (by kernel_rfl) (by kernel_rfl) (fun _ _ _ h => h) (Or.inl ⟨by rfl, ?_⟩) (by assumption) ?_
      rotate_left
      · intro W hSw
        obtain ⟨s0, s1, s2, s3, s4, s5, s6, s7, s8, s9, s10, s11⟩ := hSw
        go_simp
        try with_reducible rfl
      simp only [Act.put, List.setIfInBounds_toArray, List.set_cons_zero, List.set_cons_succ]
      refine wpAnyH_take (i := 8) (oi := { dst := some 52, op := Op.pick (Operand.tmp 48) (Operand.tmp 51) (Operand.const (Value.bool false)), type := 4, pos := "meaning.go:21", after := #[{ on := 4, ground := Ground.data }, { on := 7, ground := Ground.data }], guard := none }) (v := ?_) rfl (by kernel_rfl) (by kernel_rfl) (by kernel_rfl) (fun _ _ _ h => h) (Or.inl ⟨by rfl, ?_⟩) (by assumption) ?_
      rotate_left
      · intro W hSw
        obtain ⟨s0, s1, s2, s3, s4, s5, s6, s7, s8, s9, s10, s11⟩ := hSw
        go_simp
        try with_reducible rfl
      simp only [Act.put, List.setIfInBounds_toArray, List.set_cons_zero, List.set_cons_succ]
      refine wpAnyH_take (i := 9) (oi := { dst := some 53, op := Op.move (Operand.tmp 52), type := 4, pos := "meaning.go:21", after := #[{ on := 8, ground := Ground.data }, { on := 4, ground := Ground.chain }], guard := none }) (v := ?_) rfl (by kernel_rfl) (by kernel_rfl) (by kernel_rfl) (fun _ _ _ h => h) (Or.inl ⟨by rfl, ?_⟩) (by assumption) ?_
      rotate_left
      · intro W hSw
        obtain ⟨s0, s1, s2, s3, s4, s5, s6, s7, s8, s9, s10, s11⟩ := hSw
        go_simp
        try with_reducible rfl
      simp only [Act.put, List.setIfInBounds_toArray, List.set_cons_zero, List.set_cons_succ]
      refine wpAnyH_take (i := 10) (oi := { dst := some 54, op := Op.fieldAddr 45 (Operand.tmp 12) 5, type := 0, pos := "meaning.go:21", after := #[{ on := 9, ground := Ground.guard }, { on := 14, ground := Ground.gcOnly Departure.lateStores }], guard := some (9, true) }) (v := ?_) rfl (by kernel_rfl) (by kernel_rfl) (by kernel_rfl) (fun _ _ _ h => h) (Or.inl ⟨by rfl, ?_⟩) (by assumption) ?_
      rotate_left
      · intro W hSw
        obtain ⟨s0, s1, s2, s3, s4, s5, s6, s7, s8, s9, s10, s11⟩ := hSw
        go_simp
        try with_reducible rfl
      simp only [Act.put, List.setIfInBounds_toArray, List.set_cons_zero, List.set_cons_succ]
      refine wpAnyH_take (i := 11) (oi := { dst := some 55, op := Op.load 4 (Operand.tmp 54), type := 4, pos := "meaning.go:21", after := #[{ on := 10, ground := Ground.data }, { on := 9, ground := Ground.guard }, { on := 14, ground := Ground.gcOnly Departure.lateStores }], guard := some (9, true) }) (v := ?_) rfl (by kernel_rfl) (by kernel_rfl) (by kernel_rfl) (fun _ _ _ h => h) (Or.inl ⟨by rfl, ?_⟩) (by assumption) ?_
      rotate_left
      · intro W hSw
        obtain ⟨s0, s1, s2, s3, s4, s5, s6, s7, s8, s9, s10, s11⟩ := hSw
        go_simp
        try with_reducible rfl
      simp only [Act.put, List.setIfInBounds_toArray, List.set_cons_zero, List.set_cons_succ]
      refine wpAnyH_take (i := 12) (oi := { dst := some 56, op := Op.unOp UnOp.not 4 (Operand.tmp 55), type := 4, pos := "meaning.go:21", after := #[{ on := 11, ground := Ground.data }, { on := 9, ground := Ground.guard }, { on := 14, ground := Ground.gcOnly Departure.lateStores }], guard := some (9, true) }) (v := ?_) rfl (by kernel_rfl) (by kernel_rfl) (by kernel_rfl) (fun _ _ _ h => h) (Or.inl ⟨by rfl, ?_⟩) (by assumption) ?_
      rotate_left
      · intro W hSw
        obtain ⟨s0, s1, s2, s3, s4, s5, s6, s7, s8, s9, s10, s11⟩ := hSw
        go_simp
        try with_reducible rfl
      simp only [Act.put, List.setIfInBounds_toArray, List.set_cons_zero, List.set_cons_succ]
      refine wpAnyH_take (i := 13) (oi := { dst := some 57, op := Op.pick (Operand.tmp 53) (Operand.tmp 56) (Operand.const (Value.bool false)), type := 4, pos := "meaning.go:21", after := #[{ on := 9, ground := Ground.data }, { on := 12, ground := Ground.data }, { on := 14, ground := Ground.gcOnly Departure.lateStores }], guard := none }) (v := ?_) rfl (by kernel_rfl) (by kernel_rfl) (by kernel_rfl) (fun _ _ _ h => h) (Or.inl ⟨by rfl, ?_⟩) (by assumption) ?_
      rotate_left
      · intro W hSw
        obtain ⟨s0, s1, s2, s3, s4, s5, s6, s7, s8, s9, s10, s11⟩ := hSw
        go_simp
        try with_reducible rfl
      simp only [Act.put, List.setIfInBounds_toArray, List.set_cons_zero, List.set_cons_succ]
      refine wpAnyH_ready (rs := [14]) (by kernel_rfl) (by simp) ?_
      refine AllReadyH.cons (o := { dst := none, op := Op.store 45 (Operand.tmp 6) (Operand.tmp 44), type := 0, pos := "meaning.go:21", after := #[{ on := 0, ground := Ground.data }, { on := 9, ground := Ground.chain }, { on := 0, ground := Ground.phase }, { on := 1, ground := Ground.textOnly Departure.lateStores }, { on := 2, ground := Ground.textOnly Departure.lateStores }, { on := 3, ground := Ground.textOnly Departure.lateStores }, { on := 4, ground := Ground.textOnly Departure.lateStores }, { on := 5, ground := Ground.textOnly Departure.lateStores }, { on := 6, ground := Ground.textOnly Departure.lateStores }, { on := 7, ground := Ground.textOnly Departure.lateStores }, { on := 8, ground := Ground.textOnly Departure.lateStores }, { on := 9, ground := Ground.textOnly Departure.lateStores }, { on := 10, ground := Ground.textOnly Departure.lateStores }, { on := 11, ground := Ground.textOnly Departure.lateStores }, { on := 12, ground := Ground.textOnly Departure.lateStores }, { on := 13, ground := Ground.textOnly Departure.lateStores }], guard := none }) rfl (fun K hK => ?_) (AllReadyH.nil)
      rw [if_pos (by rfl)]
      refine wp_store_row 45 (.tmp 6) (.tmp 44) rfl (w.heap.size + 1) (gotC o (-1) 0 held taken) rfl rfl 45 (gotC [] 0 0 0 0) HR6.out HSZ.out rfl (by simp [gotC, Value.oneCell']) ?_
      have fset : Fr (fun x _ => x = w.heap.size + 1) (w6.alloc (.cells (gotC o (-1) 0 held taken) 45)).drew ((w6.alloc (.cells (gotC o (-1) 0 held taken) 45)).drew.setRow (w.heap.size + 1) (gotC o (-1) 0 held taken)) := (Fr.refl _ _).setRow _ _ (fun _ _ => rfl)
      obtain ⟨t0, t1, t2, t3, t4, t5, t6, t7, t8, t9, t10, t11⟩ := hS0
      have hne : w6.heap.size ≠ w.heap.size + 1 := by omega
      have hlt6 : w6.heap.size < (w6.alloc (.cells (gotC o (-1) 0 held taken) 45)).drew.heap.size := by simp
      refine hK.out _ _ ⟨(fset.cell _ 0 hlt6 (fun e => hne e)).trans t0, (fset.cell _ 1 hlt6 (fun e => hne e)).trans t1, (fset.cell _ 2 hlt6 (fun e => hne e)).trans t2, (fset.cell _ 3 hlt6 (fun e => hne e)).trans t3, (fset.cell _ 4 hlt6 (fun e => hne e)).trans t4, (fset.cell _ 5 hlt6 (fun e => hne e)).trans t5, (fset.cell _ 6 hlt6 (fun e => hne e)).trans t6, (fset.cell _ 7 hlt6 (fun e => hne e)).trans t7, (fset.cell _ 8 hlt6 (fun e => hne e)).trans t8, (fset.cell _ 9 hlt6 (fun e => hne e)).trans t9, (fset.cell _ 10 hlt6 (fun e => hne e)).trans t10, (fset.cell _ 11 hlt6 (fun e => hne e)).trans t11⟩ (fun hHeld => ?_)
      clear hK K
      refine wpAnyH_take (i := 15) (oi := { dst := some 7, op := Op.assign (Operand.tmp 57), type := 4, pos := "meaning.go:21", after := #[{ on := 13, ground := Ground.data }, { on := 14, ground := Ground.chain }, { on := 0, ground := Ground.phase }, { on := 1, ground := Ground.phase }, { on := 2, ground := Ground.phase }, { on := 3, ground := Ground.phase }, { on := 4, ground := Ground.phase }, { on := 5, ground := Ground.phase }, { on := 6, ground := Ground.phase }, { on := 7, ground := Ground.phase }, { on := 8, ground := Ground.phase }, { on := 9, ground := Ground.phase }, { on := 10, ground := Ground.phase }, { on := 11, ground := Ground.phase }, { on := 12, ground := Ground.phase }, { on := 13, ground := Ground.phase }, { on := 14, ground := Ground.phase }], guard := none }) (v := ?_) rfl (by kernel_rfl) (by kernel_rfl) (by kernel_rfl) (fun _ _ _ h => h) (Or.inl ⟨by rfl, ?_⟩) (by assumption) ?_
      rotate_left
      · intro W hSw
        go_simp
        try with_reducible rfl
      simp only [Act.put, List.setIfInBounds_toArray, List.set_cons_zero, List.set_cons_succ]
      refine wpAnyH_done (by kernel_rfl) ?_ _
      refine NoPanic.normal ?_
      go_wp2_with fail
      refine bodyPost_ret (v := .tuple #[.agg (gotC o (-1) 0 held taken), .bool true]) (results_cell_tmp_row (p := 6) (u := 7) (ty := 45) (by kernel_rfl) _ _ (w.heap.size + 1) 45 (gotC o (-1) 0 held taken) (0, 0) _ (.bool true) rfl rfl (setRow_heap _ (w.heap.size + 1) _ _ 45 _ HR6.out) Tryd.underlying45 rfl HSZ.out) rfl ⟨held, taken, rfl, ?_⟩
      exact K6.out.drew.setRow _ _ (fun y h => by omega)
end Go.Proofs.YtjnebkoohimgjaaDoor

/- Fields, plainly: lines and their fields, as the law of parts asks for them. -/
namespace Go.Proofs.YtjnebkoohimgjaaDoor
open Go.RowKit

/-- A line that is told from its neighbours. -/
def fineL (s : List UInt8) : Prop := s.length ≤ 64 ∧ (10 : UInt8) ∉ s
theorem cut_line : ∀ (s cs rest : List UInt8) (acc : List (List UInt8)), (10 : UInt8) ∉ s → cs.length + s.length ≤ 64 → cutM (s ++ 10 :: rest) cs acc = cutM rest [] (acc ++ [cs ++ s])
  | [], cs, rest, acc, _, _ => by simp [cutM]
  | x :: s, cs, rest, acc, h, hl => by
    have hx : x ≠ 10 := fun e => h (by simp [e])
    rw [List.cons_append, cutM, if_neg hx, if_neg (by simp at hl; omega), cut_line s (cs ++ [x]) rest acc (fun e => h (by simp [e])) (by simp at hl ⊢; omega)]
    simp
theorem cut_lines : ∀ (ls acc : List (List UInt8)), (∀ s ∈ ls, fineL s) → cutM (joinM ls) [] acc = (acc ++ ls, [], false)
  | [], acc, _ => by simp [joinM, cutM]
  | s :: ls, acc, h => by
    have hs := h s (by simp)
    have e : joinM (s :: ls) = s ++ 10 :: joinM ls := by rw [jn_one]; simp
    rw [e, cut_line s [] _ acc hs.2 (by simpa using hs.1), cut_lines ls _ (fun x hx => h x (by simp [hx]))]
    simp
theorem rlines_join {ls : List (List UInt8)} (h : ∀ s ∈ ls, fineL s) : rlines (joinM ls) true = ls := by
  unfold rlines
  rw [cut_lines ls [] h]
  simp
theorem rlong_join {ls : List (List UInt8)} (h : ∀ s ∈ ls, fineL s) : rlong (joinM ls) = false := by
  unfold rlong
  rw [cut_lines ls [] h]
theorem cut_fine : ∀ (c cs : List UInt8) (acc : List (List UInt8)), (∀ s ∈ acc, fineL s) → fineL cs → (∀ s ∈ (cutM c cs acc).1, fineL s) ∧ fineL (cutM c cs acc).2.1
  | [], cs, acc, h1, h2 => ⟨h1, h2⟩
  | x :: c, cs, acc, h1, h2 => by
    rw [cutM]
    split
    · refine cut_fine c [] _ (fun s hs => ?_) ⟨by simp, by simp⟩
      rcases List.mem_append.1 hs with h | h
      · exact h1 s h
      · rw [List.mem_singleton.1 h]; exact h2
    · rename_i hx
      split
      · exact ⟨h1, by simp, by simp⟩
      · rename_i hl
        refine cut_fine c (cs ++ [x]) acc h1 ⟨?_, ?_⟩
        · have := h2.1; simp; omega
        · intro h
          rcases List.mem_append.1 h with h | h
          · exact h2.2 h
          · exact hx (List.mem_singleton.1 h).symm
theorem rlines_fine (b : List UInt8) : ∀ s ∈ rlines b true, fineL s := by
  have h := cut_fine b [] [] (by simp) ⟨by simp, by simp⟩
  unfold rlines
  split
  · exact h.1
  · split
    · intro s hs
      rcases List.mem_append.1 hs with k | k
      · exact h.1 s k
      · rw [List.mem_singleton.1 k]; exact h.2
    · exact h.1
theorem fdAll_join (c : UInt8) (n : Nat) (ls : List (List UInt8)) : fdAll c n ls = joinM (ls.map (lineM c n)) := by
  induction ls with
  | nil => rfl
  | cons x ls ih =>
    have e : fdAll c n (x :: ls) = lineM c n x ++ [10] ++ fdAll c n ls := by simp [fdAll, fdG]
    rw [e, List.map_cons, jn_one, ih]
theorem att_sub (c : UInt8) (x : UInt8) (hx : x ≠ c) (l : List (List UInt8)) (P : UInt8 → Prop) (hp : P x) (h : ∀ f ∈ l, ∀ y ∈ f, P y ∧ y ≠ c) : ∀ f ∈ attM [x] l, ∀ y ∈ f, P y ∧ y ≠ c := by
  intro f hf y hy
  cases l with
  | nil =>
    simp only [attM, List.mem_singleton] at hf
    subst hf
    rw [List.mem_singleton.1 hy]; exact ⟨hp, hx⟩
  | cons p ps =>
    simp only [attM, List.mem_cons] at hf
    rcases hf with rfl | hf
    · rcases List.mem_append.1 hy with k | k
      · rw [List.mem_singleton.1 k]; exact ⟨hp, hx⟩
      · exact h p (by simp) y k
    · exact h f (by simp [hf]) y hy
theorem fldF_sub (c : UInt8) : ∀ s : List UInt8, ∀ f ∈ fldF c s, ∀ y ∈ f, y ∈ s ∧ y ≠ c
  | [] => by simp [fldF]
  | x :: s => by
    have ih := fldF_sub c s
    rw [fldF]
    split
    · intro f hf y hy
      rcases List.mem_cons.1 hf with rfl | hf
      · cases hy
      · have := ih f hf y hy; exact ⟨List.mem_cons_of_mem _ this.1, this.2⟩
    · rename_i hx
      exact att_sub c x hx _ (· ∈ x :: s) (by simp) fun f hf y hy => ⟨List.mem_cons_of_mem _ (ih f hf y hy).1, (ih f hf y hy).2⟩
theorem fld_sub (c : UInt8) (s : List UInt8) : ∀ f ∈ fldM c s, ∀ y ∈ f, y ∈ s ∧ y ≠ c := by rw [fldM_front]; exact fldF_sub c s
theorem sel_sub (n : Nat) : ∀ (l : List (List UInt8)) (i : Nat), ∀ f ∈ selM n i l, f ∈ l
  | [], _ => by simp [selM]
  | p :: ps, i => by
    intro f hf
    rw [selM] at hf
    split at hf
    · rcases List.mem_cons.1 hf with rfl | hf
      · simp
      · exact List.mem_cons_of_mem _ (sel_sub n ps _ f hf)
    · exact List.mem_cons_of_mem _ (sel_sub n ps _ f hf)
theorem tail_mem (c : UInt8) : ∀ (l : List (List UInt8)) (y : UInt8), y ∈ Lib.joinTail [c] l → y = c ∨ ∃ f ∈ l, y ∈ f
  | [], y, h => by cases h
  | p :: ps, y, h => by
    have e : Lib.joinTail [c] (p :: ps) = [c] ++ p ++ Lib.joinTail [c] ps := by simp [Lib.joinTail]
    rw [e] at h
    rcases List.mem_append.1 h with h | h
    · rcases List.mem_append.1 h with h | h
      · exact .inl (List.mem_singleton.1 h)
      · exact .inr ⟨p, by simp, h⟩
    · rcases tail_mem c ps y h with h | ⟨f, hf, h⟩
      · exact .inl h
      · exact .inr ⟨f, by simp [hf], h⟩
theorem join_mem (c : UInt8) (l : List (List UInt8)) (y : UInt8) (h : y ∈ Lib.join l [c]) : y = c ∨ ∃ f ∈ l, y ∈ f := by
  cases l with
  | nil => simp [Lib.join, List.intercalate] at h
  | cons p ps =>
    rw [Lib.join_cons] at h
    rcases List.mem_append.1 h with h | h
    · exact .inr ⟨p, by simp, h⟩
    · rcases tail_mem c ps y h with h | ⟨f, hf, h⟩
      · exact .inl h
      · exact .inr ⟨f, by simp [hf], h⟩
theorem lineM_fine {c : UInt8} (hc : c ≠ 10) (n : Nat) {s : List UInt8} (h : fineL s) : fineL (lineM c n s) := by
  refine ⟨Nat.le_trans (line_len c n s) h.1, fun k => ?_⟩
  unfold lineM at k
  split at k
  · exact h.2 k
  · rcases join_mem c _ _ k with e | ⟨f, hf, hy⟩
    · exact hc e.symm
    · exact h.2 (fld_sub c s f (sel_sub n _ 0 f hf) _ hy).1
/-! One field alone. -/
theorem bit_one' : ∀ k, k < 16 → ∀ i, i < 16 → (2 ^ k / 2 ^ i % 2 = 1 ↔ i = k) := by decide
theorem bitM_one {k i : Nat} (hk : k < 16) : bitM (2 ^ k) i ↔ i = k := by
  unfold bitM
  constructor
  · rintro ⟨h1, h2⟩; exact (bit_one' k hk i h1).1 h2
  · rintro rfl; exact ⟨hk, (bit_one' i hk i hk).2 rfl⟩
theorem sel_none (k : Nat) (hk : k < 16) : ∀ (l : List (List UInt8)) (i : Nat), k < i → selM (2 ^ k) i l = []
  | [], _, _ => rfl
  | p :: ps, i, h => by rw [selM, if_neg (fun e => by have := (bitM_one hk).1 e; omega), sel_none k hk ps (i + 1) (by omega)]
theorem sel_one (k : Nat) (hk : k < 16) : ∀ (l : List (List UInt8)) (i : Nat), i ≤ k → selM (2 ^ k) i l = (l[k - i]?).toList
  | [], _, _ => by simp [selM]
  | p :: ps, i, h => by
    rw [selM]
    by_cases e : i = k
    · subst e
      rw [if_pos ((bitM_one hk).2 rfl), sel_none i hk ps (i + 1) (by omega)]; simp
    · rw [if_neg (fun x => e ((bitM_one hk).1 x)), sel_one k hk ps (i + 1) (by omega)]
      rw [show k - i = (k - (i + 1)) + 1 from by omega, List.getElem?_cons_succ]
theorem join_single (c : UInt8) (x : List UInt8) : Lib.join [x] [c] = x := by rw [Lib.join_cons]; simp [Lib.joinTail]
theorem line_one {c : UInt8} {k : Nat} (hk : k < 16) {s : List UInt8} (h : (fldM c s).length ≠ 1) : lineM c (2 ^ k) s = (fldM c s).getD k [] := by
  unfold lineM
  rw [if_neg h, sel_one k hk _ 0 (Nat.zero_le _), Nat.sub_zero, List.getD_eq_getElem?_getD]
  cases (fldM c s)[k]? with
  | none => simp [Lib.join, List.intercalate]
  | some x => exact join_single c x
theorem bit_all : ∀ i, i < 16 → 65535 / 2 ^ i % 2 = 1 := by decide
theorem sel_all : ∀ (l : List (List UInt8)) (i : Nat), i + l.length ≤ 16 → selM 65535 i l = l
  | [], _, _ => rfl
  | p :: ps, i, h => by rw [selM, if_pos ⟨by simp at h; omega, bit_all i (by simp at h; omega)⟩, sel_all ps (i + 1) (by simp at h; omega)]
theorem join_fldF (c : UInt8) : ∀ s : List UInt8, Lib.join (fldF c s) [c] = s
  | [] => join_single c []
  | x :: s => by
    have ih := join_fldF c s
    have hne := fldF_ne c s
    rw [fldF]
    cases hl : fldF c s with
    | nil => exact absurd hl hne
    | cons p ps =>
      rw [hl, Lib.join_cons] at ih
      split
      · rename_i hx
        rw [Lib.join_cons, ← ih, hx]; simp [Lib.joinTail]
      · rw [attM, Lib.join_cons, ← ih]; simp
theorem join_fld (c : UInt8) (s : List UInt8) : Lib.join (fldM c s) [c] = s := by rw [fldM_front]; exact join_fldF c s
theorem line_all {c : UInt8} {s : List UInt8} (h : (fldM c s).length ≤ 16) : lineM c 65535 s = s := by
  unfold lineM
  split
  · rfl
  · rw [sel_all _ 0 (by omega), join_fld]
theorem line_first {c : UInt8} {s : List UInt8} : lineM c 1 s = (fldM c s).getD 0 [] := by
  by_cases h : (fldM c s).length = 1
  · have e := join_fld c s
    unfold lineM
    rw [if_pos h]
    match hf : fldM c s, h with
    | [x], _ => rw [hf, join_single] at e; rw [e]; rfl
  · exact line_one (k := 0) (by omega) h
/-- How many fields, byte by byte. -/
theorem fld_count_next (c : UInt8) (s : List UInt8) (q : Nat) (h : q < s.length) : (fldM c (s.take (q + 1))).length = (fldM c (s.take q)).length + if s[q] = c then 1 else 0 := by
  have := fld_pos c (s.take q)
  rw [fld_next c s q h]
  unfold fldS
  split <;> simp; omega
/-- The first fields, parted by the byte. -/
theorem join_next (c : UInt8) (l : List (List UInt8)) (k : Nat) (h1 : 1 ≤ k) (h2 : k < l.length) : Lib.join (l.take (k + 1)) [c] = Lib.join (l.take k) [c] ++ [c] ++ l[k] := by
  rw [List.take_succ_eq_append_getElem h2]
  exact join_snoc c _ _ (by intro e; have := congrArg List.length e; rw [List.length_take] at this; simp only [List.length_nil] at this; omega)
end Go.Proofs.YtjnebkoohimgjaaDoor

/- Fields' law of parts: bare, walked. -/
namespace Go.Proofs.YtjnebkoohimgjaaDoor
open Go.RowKit

theorem col_get (f : Nat → Value) : ∀ k, k < 16 → (#[f 0, f 1, f 2, f 3, f 4, f 5, f 6, f 7, f 8, f 9, f 10, f 11, f 12, f 13, f 14, f 15] : Array Value)[k]? = some (f k)
  | 0, _ => rfl
  | 1, _ => rfl
  | 2, _ => rfl
  | 3, _ => rfl
  | 4, _ => rfl
  | 5, _ => rfl
  | 6, _ => rfl
  | 7, _ => rfl
  | 8, _ => rfl
  | 9, _ => rfl
  | 10, _ => rfl
  | 11, _ => rfl
  | 12, _ => rfl
  | 13, _ => rfl
  | 14, _ => rfl
  | 15, _ => rfl
  | n + 16, h => absurd h (by omega)
def BarePost (w : World) (e : Ending) (w' : World) : Prop := e = .returned (.bool true) ∧ Fr No w w'
set_option maxHeartbeats 4000000 in
set_option maxRecDepth 100000 in
theorem bare_any (c : UInt8) (i L : Nat) (f : Nat → Value) (col : Nat → List (List UInt8)) (w : World) (hl : L ≤ 100000) (hi : i < L) (hcol : ∀ k, k < 16 → (col k).length = L)
    (hf : ∀ k, k < 16 → ∃ a cp, f k = .slice a L cp ∧ At w a ((col k).map sv)) (hno : ∀ k, k < 16 → ∀ x, (col k)[i]? = some x → x.length ≤ 100000 ∧ c ∉ x) :
    Calls Tryd.prog 18 #[.int .u8 c.toNat, .int .i64 i, .agg #[f 0, f 1, f 2, f 3, f 4, f 5, f 6, f 7, f 8, f 9, f 10, f 11, f 12, f 13, f 14, f 15]] w (BarePost w) := by
  have HF := Lib.hid hf; have HN := Lib.hid hno; have HC := Lib.hid hcol
  clear hf hno hcol
  have HBX := Lib.hid (fun (k : Nat) (hk : k < 16) => (show (w.alloc (.cells #[f 0, f 1, f 2, f 3, f 4, f 5, f 6, f 7, f 8, f 9, f 10, f 11, f 12, f 13, f 14, f 15] 52)).cell? ⟨w.heap.size, k, none⟩ = some (f k) from
    (World.cell?_alloc_new w #[f 0, f 1, f 2, f 3, f 4, f 5, f 6, f 7, f 8, f 9, f 10, f 11, f 12, f 13, f 14, f 15] 52 (i := k)).trans (col_get f k hk)))
  have hii : (i : Int) < L := by omega
  go_enter Tryd.func18, Tryd.ntmps18
  go_wp2
  go_loop [7] (fun v => ∃ k : Nat, k ≤ 16 ∧ v = .int .i64 k) (fun v => 16 - (intOf v).toNat)
  case atStart => exact ⟨0, by omega, rfl⟩
  case round =>
    obtain ⟨k, hk, rfl⟩ := hrel
    by_cases hlt : k < 16
    · have hki : (k : Int) < 16 := by omega
      have hb := HBX.out k hlt
      obtain ⟨a, cp, e, hat⟩ := HF.out k hlt
      have hlen := HC.out k hlt
      rw [e] at hb
      obtain ⟨ga, oa, rfl, hr⟩ := hat (by simp; omega)
      have hcx : (w.alloc (.cells #[f 0, f 1, f 2, f 3, f 4, f 5, f 6, f 7, f 8, f 9, f 10, f 11, f 12, f 13, f 14, f 15] 52)).cell? ⟨ga, oa + i, none⟩ = some (sv ((col k)[i]'(by omega))) :=
        (hr.fr ((Fr.refl No w).alloc _) (fun _ _ x => x)).get i _ (by simp [show i < (col k).length from by omega])
      obtain ⟨hxl, hxc⟩ := HN.out k hlt ((col k)[i]'(by omega)) (by simp [show i < (col k).length from by omega])
      generalize (col k)[i]'(by omega) = x at *
      have HX := Lib.hid hxc
      clear hr hat hxc e
      go_wp2
      go_loop [8] (fun v => ∃ n : Nat, n ≤ x.length ∧ v = .int .i64 n) (fun v => x.length - (intOf v).toNat)
      case atStart => exact ⟨0, by omega, rfl⟩
      case round =>
        obtain ⟨n, hn, rfl⟩ := hrel
        by_cases hnl : n < x.length
        · have hni : (n : Int) < x.length := by omega
          have hne : ((x[n].toNat : Int) == (c.toNat : Int)) = false := by
            refine beq_eq_false_iff_ne.2 fun e => HX.out ?_
            have e2 : x[n] = c := UInt8.toNat_inj.1 (by omega)
            rw [← e2]; exact List.getElem_mem hnl
          have hix : ∀ W : World, (Instr.index 9 (sv x) (.int .i64 n)).run Tryd.prog W = .ok (.int .u8 x[n].toNat) W := fun W => by
            refine (run_index_string W 9 ⟨x.toArray⟩ .i64 (n : Int) Tryd.underlying9).trans ?_
            rw [dif_pos ⟨by omega, by rw [size_mk]; omega⟩]
            rfl
          go_wp2
          go_round
          case rel => exact ⟨n + 1, by omega, by go_num⟩
          case measure => simp [intOf]; omega
        · obtain rfl : n = x.length := by omega
          go_wp2
          go_round
          case rel => exact ⟨k + 1, by omega, by go_num⟩
          case measure => simp [intOf]; omega
    · obtain rfl : k = 16 := by omega
      go_wp2
      go_ret
      exact ⟨rfl, (Fr.refl No w).alloc _⟩
end Go.Proofs.YtjnebkoohimgjaaDoor

/- FieldsParts: the columns as they are filled; lines of what comes out. -/
namespace Go.Proofs.YtjnebkoohimgjaaDoor
open Go.RowKit

/-- Lines of bytes that have ended, as the laws ask for them. -/
def LnPost (w : World) (ls : List (List UInt8)) (all : Bool) (en : Ending) (w' : World) : Prop :=
  ∃ a c, en = .returned (.tuple #[.slice a ls.length c, .bool all]) ∧ At w' a (ls.map sv) ∧ Fr No w w' ∧ ls.length ≤ c
set_option maxHeartbeats 4000000 in
set_option maxRecDepth 100000 in
theorem lines_any (a : Option Addr) (cap : Nat) (b : List UInt8) (w : World) (hr : At w a (b.map bv)) (hn : b.length ≤ 100000000) (hc : b.length ≤ cap) :
    Calls Tryd.prog 16 #[.slice a b.length cap] w (LnPost w (rlines b true) (rdAll b true)) := by
  have hlines := rdlines_cap a cap b true 0 0 0 w hr hn hc
  generalize rlines b true = ls at *
  generalize rdAll b true = all at *
  generalize rdErr b true (0, 0, 0) = er at *
  obtain ⟨e1, e2, e3⟩ := er
  have HLN := Lib.hid hlines; clear hlines hr
  go_enter Tryd.func16, Tryd.ntmps16
  go_wp2_with (first
    | (go_at_call 30; refine HLN.out.mono ?_; rintro en w1 ⟨a1, c1, rfl, hat1, hf1, hc1⟩
       dsimp only [rdC]
       have HAT := Lib.hid hat1; have HF := Lib.hid hf1; have HC1 := Lib.hid hc1; clear hat1 hf1 hc1))
  go_quiet (fail)
  go_wp2
  go_ret2
  have f : Fr No w1 ((w1.alloc (.cells #[.slice a1 ls.length c1, .bool all, .int .i64 e1, .int .i64 e2, .int .i64 e3] 93)).drewN nq) := ((Fr.refl No w1).alloc _).drewN nq
  exact ⟨a1, c1, rfl, at_no HAT.out f, HF.out.trans f, HC1.out⟩
/-- .. of lines that were joined. -/
def OutPost (w : World) (col : List (List UInt8)) (L : Nat) (en : Ending) (w' : World) : Prop := ∃ a c, en = .returned (.tuple #[.slice a L c, .bool true]) ∧ At w' a (col.map sv) ∧ Fr No w w'
theorem lines_out (a : Option Addr) (cap : Nat) (o : List UInt8) (col : List (List UInt8)) (L : Nat) (w : World) (hr : At w a (o.map bv)) (ho : o = joinM col) (hf : ∀ s ∈ col, fineL s) (hL : col.length = L) (hn : o.length ≤ 100000000) (hc : o.length ≤ cap) :
    Calls Tryd.prog 16 #[.slice a o.length cap] w (OutPost w col L) := by
  subst ho; subst hL
  have h := lines_any a cap (joinM col) w hr hn hc
  rw [rlines_join hf, show rdAll (joinM col) true = true from by unfold rdAll; rw [rlong_join hf]; rfl] at h
  refine h.mono ?_
  rintro e w' ⟨a', c', rfl, h1, h2, _⟩
  exact ⟨a', c', rfl, h1, h2⟩
theorem bytes_conv (o : List UInt8) (W : World) : (convert 9 22 (sv o)).run Tryd.prog W = .ok (.slice (some ⟨W.heap.size, 0, none⟩) o.length (grownCap W o.length 0 5)) (Lib.bytesWorld W 5 ⟨o.toArray⟩) := by
  have h := Lib.run_convert_string_bytes W 9 22 5 ⟨o.toArray⟩ Tryd.underlying9 Tryd.underlying22 Tryd.underlying5
  rw [size_mk] at h
  exact h
theorem heap_lt {w : World} {b : Nat} {o : Obj} (h : w.heap[b]? = some o) : b < w.heap.size := (Array.getElem?_eq_some_iff.1 h).1
/-- The columns, as far as they are filled. -/
structure CI (wB : World) (g : Nat) (c : UInt8) (ls : List (List UInt8)) (k : Nat) (w : World) : Prop where
  fr : Fr (fun x _ => x = g) wB w
  row : ∃ f : Nat → Value, w.heap[g]? = some (.cells #[f 0, f 1, f 2, f 3, f 4, f 5, f 6, f 7, f 8, f 9, f 10, f 11, f 12, f 13, f 14, f 15] 52 (0, 0)) ∧ (∀ j, ∃ a n cp, f j = .slice a n cp) ∧ ∀ j, j < k → ∃ a cp, f j = .slice a ls.length cp ∧ At w a ((ls.map (lineM c (2 ^ j))).map sv)
theorem ci_start (w : World) (c : UInt8) (ls : List (List UInt8)) : CI (w.alloc (.cells #[.slice none 0 0, .slice none 0 0, .slice none 0 0, .slice none 0 0, .slice none 0 0, .slice none 0 0, .slice none 0 0, .slice none 0 0, .slice none 0 0, .slice none 0 0, .slice none 0 0, .slice none 0 0, .slice none 0 0, .slice none 0 0, .slice none 0 0, .slice none 0 0] 52)) w.heap.size c ls 0 (w.alloc (.cells #[.slice none 0 0, .slice none 0 0, .slice none 0 0, .slice none 0 0, .slice none 0 0, .slice none 0 0, .slice none 0 0, .slice none 0 0, .slice none 0 0, .slice none 0 0, .slice none 0 0, .slice none 0 0, .slice none 0 0, .slice none 0 0, .slice none 0 0, .slice none 0 0] 52)) :=
  ⟨Fr.refl _ _, fun _ => .slice none 0 0, heap_alloc_new w _, fun _ => ⟨none, 0, 0, rfl⟩, fun j hj => absurd hj (by omega)⟩
theorem col_set (f : Nat → Value) (v : Value) : ∀ k, k < 16 → (#[f 0, f 1, f 2, f 3, f 4, f 5, f 6, f 7, f 8, f 9, f 10, f 11, f 12, f 13, f 14, f 15] : Array Value).setIfInBounds k v = (fun k => #[(if 0 = k then v else f 0), (if 1 = k then v else f 1), (if 2 = k then v else f 2), (if 3 = k then v else f 3), (if 4 = k then v else f 4), (if 5 = k then v else f 5), (if 6 = k then v else f 6), (if 7 = k then v else f 7), (if 8 = k then v else f 8), (if 9 = k then v else f 9), (if 10 = k then v else f 10), (if 11 = k then v else f 11), (if 12 = k then v else f 12), (if 13 = k then v else f 13), (if 14 = k then v else f 14), (if 15 = k then v else f 15)]) k
  | 0, _ => rfl
  | 1, _ => rfl
  | 2, _ => rfl
  | 3, _ => rfl
  | 4, _ => rfl
  | 5, _ => rfl
  | 6, _ => rfl
  | 7, _ => rfl
  | 8, _ => rfl
  | 9, _ => rfl
  | 10, _ => rfl
  | 11, _ => rfl
  | 12, _ => rfl
  | 13, _ => rfl
  | 14, _ => rfl
  | 15, _ => rfl
  | n + 16, h => absurd h (by omega)
theorem At.cols {w : World} {g : Nat} {f : Nat → Value} {t : TypeId} (hrow : w.heap[g]? = some (.cells #[f 0, f 1, f 2, f 3, f 4, f 5, f 6, f 7, f 8, f 9, f 10, f 11, f 12, f 13, f 14, f 15] t (0, 0))) (hs : ∀ j, ∃ a n cp, f j = .slice a n cp) {a : Option Addr} {vs : List (List UInt8)} (h : At w a (vs.map sv)) (k : Nat) (v : Value) :
    At (w.setCell ⟨g, k, none⟩ v) a (vs.map sv) := by
  intro hp
  obtain ⟨ga, oa, rfl, hr⟩ := h hp
  refine ⟨ga, oa, rfl, hr.fr (frSet w g k v) fun i hi e => ?_⟩
  obtain ⟨e1, e2⟩ := e
  subst e1
  have hi' : i < vs.length := by simpa using hi
  have h1 := hr.get i (sv vs[i]) (by simp [hi'])
  rw [cell_block hrow] at h1
  by_cases hk : oa + i < 16
  · rw [col_get f _ hk] at h1
    obtain ⟨a, n, cp, e⟩ := hs (oa + i)
    rw [e] at h1
    cases h1
  · rw [Array.getElem?_eq_none (by simp; omega)] at h1
    cases h1
theorem CI.next {wB wr w6 : World} {g : Nat} {c : UInt8} {ls : List (List UInt8)} {k : Nat} (h : CI wB g c ls k wr) (f6 : Fr No wr w6) (hk : k < 16) (a : Option Addr) (cp : Nat) (hat : At w6 a ((ls.map (lineM c (2 ^ k))).map sv)) :
    CI wB g c ls (k + 1) (w6.setCell ⟨g, k, none⟩ (.slice a ls.length cp)) := by
  obtain ⟨f, hrow, hs, hold⟩ := h.row
  have hgl := heap_lt hrow
  have hrow6 := (f6.block g hgl fun _ x => x).trans hrow
  refine ⟨(h.fr.step f6 (fun _ _ _ x => x.elim)).step (frSet w6 g k _) (fun _ _ _ e => e.1), fun j => if j = k then .slice a ls.length cp else f j, ?_, fun j => ?_, fun j hj => ?_⟩
  · rw [setCell_eq_setRow w6 g k _ _ (0, 0) _ hrow6, setRow_heap w6 g _ _ _ _ hrow6, col_set f _ k hk]
  · dsimp only
    split
    · exact ⟨_, _, _, rfl⟩
    · exact hs j
  · dsimp only
    by_cases e : j = k
    · subst e
      rw [if_pos rfl]
      exact ⟨a, cp, rfl, At.cols hrow6 hs hat _ _⟩
    · rw [if_neg e]
      obtain ⟨a', cp', h1, h2⟩ := hold j (by omega)
      exact ⟨a', cp', h1, At.cols hrow6 hs (at_no h2 f6) _ _⟩
/-- The cell that is to be filled. -/
theorem CI.cell {wB wr w6 : World} {g : Nat} {c : UInt8} {ls : List (List UInt8)} {k : Nat} (h : CI wB g c ls k wr) (f6 : Fr No wr w6) (j : Nat) (hj : j < 16) : ∃ v, w6.cell? ⟨g, j, none⟩ = some v ∧ w6.frozen? ⟨g, j, none⟩ = false := by
  obtain ⟨f, hrow, _, _⟩ := h.row
  have hrow6 := (f6.block g (heap_lt hrow) fun _ x => x).trans hrow
  exact ⟨f j, (cell_block hrow6 j).trans (col_get f j hj), frozen_block hrow6 j⟩
end Go.Proofs.YtjnebkoohimgjaaDoor

