/- Graphs: Order. -/
import Derived.Test.YtljldkknopmfhaaGrW
import Derived.Deep.LoopGhost
namespace Go.Proofs.Ytljldkknopmfhaa
open Go.RowKit

def ivN (n : Nat) : Value := .int .i64 n
theorem ints_info' : (Try.prog.info? 3).map (fun i => (i.zero, i.size, i.bytes)) = some (some (.int .i64 0), 1, 8) := by kernel_rfl
theorem ivN_iv (l : List Nat) : l.map ivN = (l.map fun (n : Nat) => (n : Int)).map iv := by simp [ivN, iv]
theorem mem_cast {l : List Nat} {i : Nat} : (i : Int) ∈ l.map (fun (n : Nat) => (n : Int)) ↔ i ∈ l := by
  rw [List.mem_map]
  exact ⟨fun ⟨a, h, e⟩ => by obtain rfl : a = i := by omega
                             exact h, fun h => ⟨i, h, rfl⟩⟩
theorem mem_hasN {l : List Nat} {x : Int} : x ∈ l.map (fun (n : Nat) => (n : Int)) ↔ hasN l x = true := by
  rw [hasN_iff, List.mem_map]
def lenV : Value → Nat
  | .slice _ n _ => n
  | _ => 0
/-- The memory of Order behind its head. -/
structure OM (w : World) (x : Gv) (f : Nat → Value) (lo b4 : Nat) (W : World) : Prop where
  p4 : W.heap[b4]? = some (.cells (tabC 32 f) 102 (0, 0))
  gb : W.heap[w.heap.size]? = some (.cells #[.slice x.sa x.sp.length x.sc, .slice x.da x.du.length x.dc] 63 (0, 0))
  fr : Fr No w W
  rows : Rows32 W lo x f
theorem OM.keep {w W W' : World} {x : Gv} {f : Nat → Value} {lo b4 : Nat} (h : OM w x f lo b4 W) (r : Fr No W W') : OM w x f lo b4 W' :=
  ⟨(r.block _ (heap_lt h.p4) (fun _ y => y)).trans h.p4, (r.block _ (heap_lt h.gb) (fun _ y => y)).trans h.gb, h.fr.trans r, h.rows.fr r (fun _ _ _ _ y => y)⟩
/-- The row so far. -/
structure OL (w3 : World) (l : List Nat) (v : Value) (W : World) : Prop where
  fr : Fr No w3 W
  own : OwnSl W 3 1 v l.length (l.map ivN)
  new : ∀ b, v.ownBlock = some b → w3.heap.size ≤ b
theorem OL.keep {w3 W W' : World} {l : List Nat} {v : Value} (h : OL w3 l v W) (r : Fr No W W') : OL w3 l v W' := ⟨h.fr.trans r, h.own.fr r (fun _ _ _ y => y), h.new⟩
def OrderPost (w : World) (x : Gv) (e : Ending) (w' : World) : Prop :=
  ∃ a c, e = .returned (.tuple #[.slice a x.g.orderL.length c, .int .i64 x.g.check.2]) ∧ At w' a (x.g.orderL.map iv) ∧ Fr No w w'
theorem order_none {w W : World} {x : Gv} (h : Fr No w W) (hn : x.g.check.2 ≠ 0) : OrderPost w x (.returned (.tuple #[.slice none 0 0, .int .i64 x.g.check.2])) W := by
  have e : x.g.orderL = [] := if_neg hn
  exact ⟨none, 0, by rw [e]; rfl, by rw [e]; exact At.nil _ _, h⟩
theorem OL.done {w w3 W : World} {x : Gv} {v : Value} (h : OL w3 x.g.order v W) (k : Fr No w w3) (hn : x.g.check.2 = 0) : OrderPost w x (.returned (.tuple #[v, .int .i64 0])) W := by
  have e : x.g.orderL = x.g.order.map fun (n : Nat) => (n : Int) := if_pos hn
  obtain ⟨a, c, rfl, hat, _⟩ := h.own.at
  refine ⟨a, c, by rw [e, hn]; simp, ?_, k.trans h.fr⟩
  rw [e, ← ivN_iv]; exact hat
set_option maxHeartbeats 8000000 in
set_option maxRecDepth 100000 in
theorem order_graph (w : World) (x : Gv) (hx : x.Ok w) (hsm : Sml x) : Calls Try.prog 47 #[.agg #[.slice x.sa x.sp.length x.sc, .slice x.da x.du.length x.dc]] w (OrderPost w x) := by
  have hc0 : ((w.alloc (.cells #[.slice x.sa x.sp.length x.sc, .slice x.da x.du.length x.dc] 63))).heap[w.heap.size]? = some (.cells #[.slice x.sa x.sp.length x.sc, .slice x.da x.du.length x.dc] 63 (0, 0)) := heap_alloc_new w _
  have HW := Lib.hid (whole_any (w.alloc (.cells #[.slice x.sa x.sp.length x.sc, .slice x.da x.du.length x.dc] 63)) x (hx.fr ((Fr.refl No w).alloc _)) hsm)
  have HK := Lib.hid ((Fr.refl No w).alloc (.cells #[.slice x.sa x.sp.length x.sc, .slice x.da x.du.length x.dc] 63))
  have HG := Lib.hid (fun (W : World) (h : Fr No (w.alloc (.cells #[.slice x.sa x.sp.length x.sc, .slice x.da x.du.length x.dc] 63)) W) => (h.block _ (by simp) (fun _ y => y)).trans hc0)
  unfold WholePost at HW
  have HX := Lib.hid hx
  by_cases hck : x.g.check.2 = 0
  · have hwh := (check_ok x.g).1 hck
    have HWH := Lib.hid hwh
    have hn16 : x.sp.length ≤ 16 := by have := hwh.ns; rwa [x.st_len] at this
    have HCK := Lib.hid hck
    rw [hck] at HW
    clear hx hsm hck hwh hc0
    go_enter Try.func47, Try.ntmps47
    go_wp2
    go_step3
    go_wp2_with (first
      | (go_at_call 70; (refine HW.out.mono ?_; rintro e w2 ⟨f, rfl, hf2, hone, hrows⟩; have HF2 := Lib.hid hf2; have H1C := Lib.hid (tabC_all hone); have HR := Lib.hid (hrows (by trivial)); clear hf2 hone hrows))
      | (refine wpList_store_row rfl 102 (.tmp 4) (.tmp 14) rfl w2.heap.size (tabC 32 f) rfl rfl 102 _ (heap_alloc_last w2 _) (portsz f) (by rw [tabC_size]; rfl) H1C.out ?_
         rw [World.setRow_alloc_new]
         have HOM := Lib.hid (show OM w x f (w.alloc (.cells #[.slice x.sa x.sp.length x.sc, .slice x.da x.du.length x.dc] 63)).heap.size w2.heap.size (w2.alloc (.cells (tabC 32 f) 102)) from
           ⟨heap_alloc_new w2 _, HG.out _ (HF2.out.alloc _), (HK.out.trans HF2.out).alloc _, HR.out.fr ((Fr.refl No w2).alloc _) (fun _ _ _ _ y => y)⟩)
         clear HR HF2 HW
         generalize w2.alloc (.cells (tabC 32 f) 102) = w3 at *
         generalize w2.heap.size = b4 at *))
    generalize (w.alloc (.cells #[.slice x.sa x.sp.length x.sc, .slice x.da x.du.length x.dc] 63)).heap.size = lo at *
    clear HK HG
    go_step3
    go_wp2
    go_loopg [7, 8] (x.sp.length * (x.sp.length + 1) + x.sp.length) (fun gh v i wr => ∃ (l : List Nat) (m k : Nat), Hid (OSt x.g l m k) ∧ (x.sp.length - m) * (x.sp.length + 1) + (x.sp.length - k) ≤ gh ∧ i = .int .i64 k ∧ Hid (OL w3 l v wr))
    case atStart => exact ⟨[], 0, 0, Lib.hid (ost_start x.g), by simp, rfl, Lib.hid ⟨Fr.refl _ _, OwnSl.nil _ _ _, by simp [Value.ownBlock]⟩⟩
    case round =>
      obtain ⟨l, m, k, HST, hgk, rfl, HL⟩ := hrel
      have hml := HST.out.len HWH.out
      have hkn := HST.out.ile
      have hmn := HST.out.le
      rw [x.st_len] at hkn hmn
      subst hml
      have HOK := Lib.hid (HOM.out.keep HL.out.fr)
      obtain ⟨la, lc, hv, hat, hlc⟩ := HL.out.own.at
      subst hv
      have hat2 := hat
      rw [ivN_iv] at hat2
      have c0 := cell_block HOK.out.gb 0
      have c1 := cell_block HOK.out.gb 1
      have HAT := Lib.hid hat2
      clear hat hat2
      by_cases hlt : k < x.sp.length
      · obtain ⟨go, rfl⟩ : ∃ go, gk = go + 1 := ⟨gk - 1, by omega⟩
        have hki : (k : Int) < x.sp.length := by omega
        have hki16 : (k : Int) < 16 := by omega
        have HCN := Lib.hid (fun (y : Int) => hasI_any la l.length lc (l.map fun (n : Nat) => (n : Int)) y wr (by simp) HAT.out (by simp; omega))
        have hskip : x.g.cand l k = false → ∃ (l' : List Nat) (m' k' : Nat), Hid (OSt x.g l' m' k') ∧ (x.sp.length - m') * (x.sp.length + 1) + (x.sp.length - k') ≤ go ∧ ((k : Int) + 1) = (k' : Int) ∧ Hid (OL w3 l' (.slice la l.length lc) wr) := fun hc =>
          ⟨l, l.length, k + 1, Lib.hid (HST.out.skip (by rw [x.st_len]; exact hlt) hc), by omega, by omega, HL⟩
        have HSK := Lib.hid hskip; clear hskip
        by_cases hin : k ∈ l
        · have hc := Lib.hid (HSK.out (by
            cases h : x.g.cand l k with
            | false => rfl
            | true => exact absurd hin (cand_iff.1 h).1))
          have HC1 := Lib.hid (HCN.out k)
          rw [decide_eq_true (mem_cast.2 hin)] at HC1
          clear hin
          go_wp2_with (go_at_call 74; refine HC1.out.mono ?_; rintro e w4 ⟨rfl, rfl⟩)
          go_roundg go
          case measure => omega
          case rel =>
            obtain ⟨l', m', k', a1, a2, a3, a4⟩ := hc.out
            exact ⟨l', m', k', a1, a2, by rw [a3], a4⟩
        · have HC1 := Lib.hid (HCN.out k)
          rw [decide_eq_false (fun e => hin (mem_cast.1 e))] at HC1
          have hri := tab_ins x (s := k) (by omega)
          obtain ⟨a2, e2, t2⟩ := (HOK.out.rows k (by omega)).slice
          rw [hri] at e2 t2
          have hlen := (ports_few HX.out HWH.out.toLaid hlt).1
          have y1 : wr.cell? ⟨b4, k, none⟩ = some (.slice a2 (x.g.insOf k).length (x.g.insOf k).length) := by rw [cell_block HOK.out.p4, tabC_get f (by omega), e2]
          have HIE := Lib.hid (fun d (hd : d ∈ x.g.insOf k) => in_entry HWH.out.toLaid (by rw [x.st_len]; exact hlt) hd)
          have HCR := Lib.hid (cand_rows (l := l) HWH.out.toLaid (i := k) (by rw [x.st_len]; exact hlt))
          have HIN := Lib.hid hin
          have HT2 := Lib.hid t2
          clear hin hri e2 t2
          generalize x.g.insOf k = T at *
          have hTi : (T.length : Int) ≤ 4 := by omega
          go_wp2_with (go_at_call 74; refine HC1.out.mono ?_; rintro e w4 ⟨rfl, rfl⟩)
          go_loopg [35] T.length (fun gh2 j wy => ∃ q : Nat, q + gh2 = T.length ∧ j = .int .i64 q ∧ Hid (∀ p (h : p < T.length), p < q → hasN l (x.g.d (T[p]).toNat).frm = true) ∧ wr = wy)
          case atStart => exact ⟨0, by omega, rfl, Lib.hid (fun p _ hp => absurd hp (by omega)), rfl⟩
          case round =>
            obtain ⟨q, hq, rfl, HQ, rfl⟩ := hrel
            by_cases hlq : q < T.length
            · obtain ⟨g2, rfl⟩ : ∃ g2, gk = g2 + 1 := ⟨gk - 1, by omega⟩
              have hmem : T[q] ∈ T := List.getElem_mem _
              obtain ⟨e1, e2, e3, e4⟩ := HIE.out _ hmem
              obtain ⟨ga, oa, rfl, hrow⟩ := HT2.out (by simp; omega)
              have c2 : wr.cell? ⟨ga, oa + q, none⟩ = some (.int .i64 T[q]) := hrow.get q (iv T[q]) (by simp [hlq])
              have hnext : hasN l (x.g.d (T[q]).toNat).frm = true → ∀ p (h : p < T.length), p < q + 1 → hasN l (x.g.d (T[p]).toNat).frm = true := fun e p h hp => by
                by_cases e : p = q
                · subst e; assumption
                · exact HQ.out p h (by omega)
              have hstop : hasN l (x.g.d (T[q]).toNat).frm = false → x.g.cand l k = false := fun e => by
                cases h : x.g.cand l k with
                | false => rfl
                | true => rw [(HCR.out.1 h).2 _ hmem] at e; cases e
              have HN := Lib.hid hnext; have HS := Lib.hid hstop
              clear hnext hstop hrow hmem
              generalize T[q] = d at *
              obtain ⟨dn, rfl⟩ : ∃ dn : Nat, d = dn := ⟨d.toNat, by omega⟩
              have hdn : dn < x.du.length := by have : (dn : Int) < x.g.du.length := e2; rw [x.du_len] at this; omega
              rw [Int.toNat_natCast, x.d_at hdn] at HN HS
              obtain ⟨gd, od, hda, hdr⟩ := (HX.out.fr HOK.out.fr).du.flat dc_len (by decide) (by omega)
              obtain ⟨c3, -, -, -, -⟩ := dc_cells hdr hdn
              have c4 : wr.cell? ⟨w.heap.size, 1, none⟩ = some (.slice (some ⟨gd, od, none⟩) x.du.length x.dc) := by rw [cell_block HOK.out.gb 1, hda]; rfl
              generalize (x.du[dn]).frm = fr at *
              have hdi : (dn : Int) < x.du.length := by omega
              have hqi : (q : Int) < T.length := by omega
              have HC2 := Lib.hid (HCN.out fr)
              clear e1 e2 e3 e4 hdr c1 hda
              cases hf : hasN l fr with
              | true =>
                rw [decide_eq_true (mem_hasN.2 hf)] at HC2
                have HN2 := Lib.hid (HN.out hf)
                clear hf
                go_wp2_with (go_at_call 74; refine HC2.out.mono ?_; rintro e w4 ⟨rfl, rfl⟩)
                go_roundg g2
                case measure => omega
                case rel => exact ⟨q + 1, by omega, by go_num, HN2, rfl⟩
              | false =>
                rw [decide_eq_false (fun e => by rw [mem_hasN.1 e] at hf; cases hf)] at HC2
                have HS2 := Lib.hid (HSK.out (HS.out hf))
                clear hf
                go_wp2_with (go_at_call 74; refine HC2.out.mono ?_; rintro e w4 ⟨rfl, rfl⟩)
                go_roundg go
                case measure => omega
                case rel =>
                  obtain ⟨l', m', k', a1, a2, a3, a4⟩ := HS2.out
                  exact ⟨l', m', k', a1, a2, by rw [a3], a4⟩
            · obtain rfl : q = T.length := by omega
              have hcand := HCR.out.2 ⟨HIN.out, fun d hd => by
                obtain ⟨p, hp, rfl⟩ := List.getElem_of_mem hd
                exact HQ.out p hp hp⟩
              obtain ⟨hst2, hm2⟩ := HST.out.take HWH.out (by rw [x.st_len]; exact hlt) hcand
              rw [x.st_len] at hm2
              have HST2 := Lib.hid hst2
              have hmeas : (x.sp.length - (l.length + 1)) * (x.sp.length + 1) + (x.sp.length - 0) ≤ go := by
                obtain ⟨z, hz⟩ : ∃ z, z = x.sp.length - (l.length + 1) := ⟨_, rfl⟩
                rw [← hz]
                rw [show x.sp.length - l.length = z + 1 from by omega, Nat.add_mul, Nat.one_mul] at hgk
                omega
              have HME := Lib.hid hmeas
              obtain ⟨j0, hj, jz0, jz1, jz2⟩ := info_parts ints_info'
              clear hst2 hcand hmeas
              have h16 : (l.length : Int) ≤ 16 := by omega
              go_wp2_with (at_builtin
                           refine wpList_append_sl rfl (.tmp 49) (.tmp 51) 57 57 rfl 3 j0 (.int .i64 0) 1 8 Try.underlying57 hj jz0 jz1 jz2 rfl (by decide) (.slice la l.length lc) l.length (l.map ivN) rfl (HL.out.own.fr ((Fr.refl No wr).alloc _) (fun _ _ _ y => y)) _ 1 [ivN k] rfl (src_slice Try.underlying57 (by simp) (fun _ => ⟨wr.heap.size, 0, rfl, row_new wr [ivN k] 3 (0, 0)⟩) (by simp [ivN, Value.oneCell'])) (by omega) (by omega) ?_
                           intro v1 w5 hown1 hfr1 hblk1
                           have hol : OL w3 (l ++ [k]) v1 w5 := ⟨(HL.out.fr.alloc (.cells #[ivN k] 3)).step hfr1 (fun b o hb e => by have := HL.out.new b e; omega), by simpa using hown1, fun b hb => by
                             rcases hblk1 with h1 | h1
                             · rw [h1] at hb; exact HL.out.new b hb
                             · rw [h1] at hb; injection hb with hb; have := HL.out.fr.size; simp at hb; omega⟩
                           have HOL := Lib.hid hol
                           clear hown1 hfr1 hblk1 hol)
              go_roundg go
              case measure => omega
              case rel => exact ⟨l ++ [k], l.length + 1, 0, HST2, HME.out, by go_num, HOL⟩
      · obtain rfl : k = x.sp.length := by omega
        have HE := Lib.hid (OL.done (x := x) (by rw [← OSt.done (g := x.g) (m := l.length) (by rw [x.st_len]; exact HST.out) HWH.out]; exact HL.out) HOM.out.fr HCK.out)
        go_wp2
        try rw [Exit.noGoto_ret]
        go_ret2
        exact HE.out
  · have hcb : (x.g.check.2 != 0) = true := by simpa using hck
    have HE := Lib.hid (fun (W : World) (h : Fr No w W) => order_none h hck)
    clear hx hsm hck
    generalize x.g.check = ck at *
    go_enter Try.func47, Try.ntmps47
    go_wp2
    go_step3
    go_wp2_with (first
      | (go_at_call 70; refine HW.out.mono ?_; rintro e w2 ⟨f, rfl, hf2, hone, -⟩
         have HF2 := Lib.hid hf2; have H1C := Lib.hid (tabC_all hone)
         clear hf2 hone)
      | (refine wpList_store_row rfl 102 (.tmp 4) (.tmp 14) rfl w2.heap.size (tabC 32 f) rfl rfl 102 _ (heap_alloc_last w2 _) (portsz f) (by rw [tabC_size]; rfl) H1C.out ?_
         rw [World.setRow_alloc_new]))
    rw [Exit.noGoto_ret]
    go_ret2
    exact HE.out _ ((HK.out.trans HF2.out).alloc _)
end Go.Proofs.Ytljldkknopmfhaa
