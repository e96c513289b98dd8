/- Graphs, the document's words: Order. -/
import Derived.Test.YtljldkknopmfhaaGrH
import Derived.Test.YtljldkknopmfhaaGrI
namespace Go.Proofs.Ytljldkknopmfhaa
open Go.RowKit

/-- The memory of the document's Order. -/
structure RO (w2 : World) (bm : Nat) (l : List Nat) (v : Value) (W : World) : Prop where
  m : W.heap[bm]? = some (.cells (mC fun i => hasN l i) 107 (0, 0))
  fr : Fr No w2 W
  own : OwnSl W 3 1 v l.length (l.map ivN)
  lo : ∀ b, v.ownBlock = some b → w2.heap.size ≤ b
  hb : w2.heap.size ≤ bm
theorem RO.ne {w2 W : World} {bm : Nat} {l : List Nat} {v : Value} (h : RO w2 bm l v W) : v.ownBlock ≠ some bm := by
  intro e
  rcases h.own.2 with ⟨hv, _⟩ | ⟨g, off, cap, cur, hv, hg, _⟩
  · rw [hv] at e; cases e
  · rw [hv] at e; injection e with e; simp only at e; subst e
    rw [h.m] at hg; injection hg with hg; injection hg with _ hg
    exact absurd hg (by decide)
theorem hasN_snoc (l : List Nat) (k : Nat) : setB (fun i => hasN l i) k = fun (i : Nat) => hasN (l ++ [k]) i := by
  funext i
  unfold setB
  rw [Bool.eq_iff_iff, hasN_nat]
  split
  · rename_i e; subst e; simp
  · rename_i e
    simp only [List.mem_append, List.mem_singleton]
    rw [hasN_nat]
    exact ⟨fun h => .inl h, fun h => h.resolve_right e⟩
/-- A stage is marked, and laid behind the others. -/
theorem RO.next {w2 W W2 : World} {bm : Nat} {l : List Nat} {v v' : Value} (h : RO w2 bm l v W) (k : Nat) (cs : Array Value) (hown : OwnSl W2 3 1 v' (l.length + 1) (l.map ivN ++ [ivN k])) (hf : Fr (Blk v) ((W.setCell ⟨bm, k, none⟩ (.bool true)).alloc (.cells cs 3)) W2)
    (hb : v'.ownBlock = v.ownBlock ∨ v'.ownBlock = some ((W.setCell ⟨bm, k, none⟩ (.bool true)).alloc (.cells cs 3)).heap.size) : RO w2 bm (l ++ [k]) v' W2 := by
  have hne := h.ne
  have hbs := h.hb
  have hsz := h.fr.size
  have hfs := frSet W bm k (.bool true)
  have hm1 := block_set (k := k) h.m (.bool true)
  rw [mC_set, hasN_snoc] at hm1
  have hlt := heap_lt hm1
  refine ⟨?_, ?_, by simpa using hown, fun b e => ?_, h.hb⟩
  · rw [hf.block bm (by simp; have := heap_lt h.m; omega) (fun o e => hne e), ((Fr.refl No _).alloc (.cells cs 3)).block bm hlt (fun _ y => y)]
    exact hm1
  · exact ((h.fr.step hfs (fun b o hb' e => by have := e.1; omega)).alloc _).step hf (fun b o hb' e => by have := h.lo b e; omega)
  · rcases hb with h1 | h1
    · rw [h1] at e; exact h.lo b e
    · rw [h1] at e; injection e with e; simp at e; omega
theorem RO.done {w w2 W : World} {x : Gv} {bm : Nat} {v : Value} (h : RO w2 bm x.g.order v W) (k : Fr No w w2) (hn : x.g.check.2 = 0) : OrderPost w x (.returned (.tuple #[v, .int .i64 0])) W := by
  have e : x.g.orderL = x.g.order.map fun (n : Nat) => (n : Int) := if_pos hn
  obtain ⟨a, c, rfl, hat, _⟩ := h.own.at
  refine ⟨a, c, by rw [e, hn]; simp, ?_, k.trans h.fr⟩
  rw [e, ← ivN_iv]; exact hat
/-- May it come next, as far as q ducts tell? -/
def candQ (g : Gr) (l : List Nat) (k q : Nat) : Bool := !hasN l k && (g.du.take q).all fun d => !decide (d.to = k) || hasN l d.frm
theorem candQ_all (g : Gr) (l : List Nat) (k : Nat) : candQ g l k g.du.length = g.cand l k := by unfold candQ Gr.cand; rw [List.take_length]
theorem candQ_zero (g : Gr) (l : List Nat) (k : Nat) : candQ g l k 0 = !hasN l k := by simp [candQ]
theorem candQ_next {g : Gr} {l : List Nat} {k q : Nat} (hq : q < g.du.length) : candQ g l k (q + 1) = (candQ g l k q && (!decide ((g.d q).to = k) || hasN l (g.d q).frm)) := by
  unfold candQ
  rw [take_next hq, List.all_append, Bool.and_assoc]
  simp
set_option maxHeartbeats 8000000 in
set_option maxRecDepth 100000 in
theorem order_ref (w : World) (x : Gv) (hx : x.Ok w) (hsm : Sml x) : Calls Try.prog 48 #[.agg #[.slice x.sa x.sp.length x.sc, .slice x.da x.du.length x.dc]] w (OrderPost w x) := by
  have HXB := Lib.hid (fun (W : World) (h : Fr No (w.alloc (.cells #[.slice x.sa x.sp.length x.sc, .slice x.da x.du.length x.dc] 63)) W) => hx.fr (((Fr.refl No w).alloc _).trans h))
  have HB := Lib.hid (fun (W : World) (h : Fr No (w.alloc (.cells #[.slice x.sa x.sp.length x.sc, .slice x.da x.du.length x.dc] 63)) W) => show W.cell? ⟨w.heap.size, 0, none⟩ = some (.slice x.sa x.sp.length x.sc) ∧ W.cell? ⟨w.heap.size, 1, none⟩ = some (.slice x.da x.du.length x.dc) from ⟨cell_block (box_block h) 0, cell_block (box_block h) 1⟩)
  have K0 := Lib.hid ((Fr.refl No w).alloc (.cells #[.slice x.sa x.sp.length x.sc, .slice x.da x.du.length x.dc] 63))
  have HCK := Lib.hid (check_ref (w.alloc (.cells #[.slice x.sa x.sp.length x.sc, .slice x.da x.du.length x.dc] 63)) x (HXB.out _ (Fr.refl _ _)) hsm)
  unfold RChk at HCK
  by_cases hck : x.g.check.2 = 0
  · have hwh := (check_ok x.g).1 hck
    have HWH := Lib.hid hwh
    have HCZ := Lib.hid hck
    have hn16 : x.sp.length ≤ 16 := by have := hwh.ns; rwa [x.st_len] at this
    have hd64 : x.du.length ≤ 64 := by have := hwh.nd; rwa [x.du_len] at this
    have HEN := Lib.hid (fun d (hd : d ∈ x.du) => hwh.toLaid.ends d hd)
    obtain ⟨j0, hj, jz0, jz1, jz2⟩ := info_parts ints_info'
    rw [hck] at HCK
    have hni : (x.sp.length : Int) ≤ 16 := by omega
    have hdi : (x.du.length : Int) ≤ 64 := by omega
    clear hx hsm hck hwh
    go_enter Try.func48, Try.ntmps48
    go_wp2_with (first
      | (go_at_call 45; refine HCK.out.mono ?_; rintro e w2 ⟨rfl, hf2⟩
         have HF2 := Lib.hid hf2
         have hro : RO w2 w2.heap.size [] (.slice none 0 0) (w2.alloc (.cells #[.bool false, .bool false, .bool false, .bool false, .bool false, .bool false, .bool false, .bool false, .bool false, .bool false, .bool false, .bool false, .bool false, .bool false, .bool false, .bool false] 107)) :=
           ⟨heap_alloc_new w2 _, (Fr.refl No w2).alloc _, OwnSl.nil _ _ _, by simp [Value.ownBlock], Nat.le_refl _⟩
         have HRO := Lib.hid hro
         clear hf2 hro))
    generalize w2.alloc (.cells #[.bool false, .bool false, .bool false, .bool false, .bool false, .bool false, .bool false, .bool false, .bool false, .bool false, .bool false, .bool false, .bool false, .bool false, .bool false, .bool false] 107) = w3 at *
    go_loopw [7] (fun v wr => ∃ (m : Nat) (a : Option Addr) (c : Nat), m ≤ x.sp.length ∧ v = .slice a m c ∧ Hid (RO w2 w2.heap.size (x.g.orderN m) (.slice a m c) wr)) (fun v _ => x.sp.length - lenV v)
    case atStart => exact ⟨0, none, 0, Nat.zero_le _, rfl, HRO⟩
    case round =>
      obtain ⟨m, a, c, hm, rfl, HR⟩ := hrel
      clear HRO
      have HRI := Lib.hid (HF2.out.trans HR.out.fr)
      obtain ⟨c0, c1⟩ := HB.out _ HRI.out
      have hok := orderN_ok HWH.out m (by rw [x.st_len]; exact hm)
      have hmi : (m : Int) ≤ 16 := by omega
      by_cases hlt : m < x.sp.length
      · have hmlt : (m : Int) < x.sp.length := by omega
        have HEX := Lib.hid (order_next HWH.out hok (by rw [x.st_len]; exact hlt))
        have HNX := Lib.hid (fun k (hk : k < x.sp.length) (hc : x.g.cand (x.g.orderN m) k = true) (hn : ∀ j, j < k → x.g.cand (x.g.orderN m) j = false) => orderN_succ (by rw [x.st_len]; exact hk) hc hn)
        have hlen := hok.len
        clear hok
        generalize x.g.orderN m = l at *
        subst hlen
        go_wp2
        go_loopw [7, 8] (fun v i wy => v = .slice a l.length c ∧ ∃ k : Nat, k ≤ x.sp.length ∧ i = .int .i64 k ∧ Hid (∀ j, j < k → x.g.cand l j = false) ∧ wr = wy) (fun _ i _ => x.sp.length - (intOf i).toNat)
        case atStart => exact ⟨rfl, 0, Nat.zero_le _, rfl, Lib.hid (fun j hj => absurd hj (by omega)), by trivial⟩
        case round =>
          obtain ⟨rfl, k, hk, rfl, HNO, rfl⟩ := hrel
          by_cases hlk : k < x.sp.length
          · have hki : (k : Int) < x.sp.length := by omega
            have hk16 : (k : Int) < 16 := by omega
            have c3 := (cell_block HR.out.m k).trans (tabC_get (fun i => .bool (hasN l i)) (by omega : k < 16))
            have c4 := frozen_block HR.out.m k
            have HC0 := Lib.hid (candQ_zero x.g l k)
            generalize hb0 : hasN l k = b0 at *
            clear hb0
            go_wp2
            go_loopw [9, 10] (fun f i wz => ∃ q : Nat, q ≤ x.du.length ∧ i = .int .i64 q ∧ f = .bool (candQ x.g l k q) ∧ wr = wz) (fun _ i _ => x.du.length - (intOf i).toNat)
            case atStart => exact ⟨0, Nat.zero_le _, rfl, by rw [HC0.out], by trivial⟩
            case round =>
              obtain ⟨q, hq, rfl, rfl, rfl⟩ := hrel
              by_cases hlq : q < x.du.length
              · obtain ⟨gd, od, hda, hdr⟩ := (HXB.out _ HRI.out).du.flat dc_len (by decide) (by omega)
                obtain ⟨d0, -, d2, -, -⟩ := dc_cells hdr hlq
                obtain ⟨⟨e1, e2⟩, e3, e4⟩ := HEN.out _ (List.getElem_mem hlq)
                have HCN := Lib.hid (candQ_next (g := x.g) (l := l) (k := k) (q := q) (by rw [x.du_len]; exact hlq))
                rw [x.d_at hlq] at HCN
                have hqi : (q : Int) < x.du.length := by omega
                have c5 : wr.cell? ⟨w.heap.size, 1, none⟩ = some (.slice (some ⟨gd, od, none⟩) x.du.length x.dc) := c1.trans (by rw [hda])
                rw [x.st_len] at e2 e4
                clear hdr hda c1
                generalize x.du[q] = d at *
                obtain ⟨frm, dout, dto, dinn, dcap⟩ := d
                dsimp only at *
                obtain ⟨fn, rfl⟩ : ∃ fn : Nat, frm = fn := ⟨frm.toNat, by omega⟩
                have hfi : (fn : Int) < 16 := by omega
                have c6 := (cell_block HR.out.m fn).trans (tabC_get (fun i => .bool (hasN l i)) (by omega : fn < 16))
                by_cases h1 : dto = k
                · have b1 : (dto == (k : Int)) = true := by simpa using h1
                  rw [decide_eq_true h1] at HCN
                  cases hf : hasN l fn with
                  | true =>
                    rw [hf] at HCN c6
                    have HE := Lib.hid (show candQ x.g l k (q + 1) = candQ x.g l k q from by rw [HCN.out]; simp)
                    clear hf h1
                    generalize hcq : candQ x.g l k q = cq at *
                    clear hcq
                    go_wp2
                    go_roundw
                    case rel => exact ⟨q + 1, by omega, by go_num, by rw [HE.out], by trivial⟩
                    case measure => simp [intOf]; omega
                  | false =>
                    rw [hf] at HCN c6
                    have HE := Lib.hid (show candQ x.g l k (q + 1) = false from by rw [HCN.out]; simp)
                    clear hf h1
                    generalize hcq : candQ x.g l k q = cq at *
                    clear hcq
                    go_wp2
                    go_roundw
                    case rel => exact ⟨q + 1, by omega, by go_num, by rw [HE.out], by trivial⟩
                    case measure => simp [intOf]; omega
                · have b1 : (dto == (k : Int)) = false := by simpa using h1
                  rw [decide_eq_false h1] at HCN
                  have HE := Lib.hid (show candQ x.g l k (q + 1) = candQ x.g l k q from by rw [HCN.out]; simp)
                  clear h1
                  generalize hcq : candQ x.g l k q = cq at *
                  clear hcq
                  go_wp2
                  go_roundw
                  case rel => exact ⟨q + 1, by omega, by go_num, by rw [HE.out], by trivial⟩
                  case measure => simp [intOf]; omega
              · obtain rfl : q = x.du.length := by omega
                have hca : candQ x.g l k x.du.length = x.g.cand l k := candQ_all x.g l k
                rw [hca]
                clear hca
                cases hc : x.g.cand l k with
                | false =>
                  have HN := Lib.hid (show ∀ j, j < k + 1 → x.g.cand l j = false from fun j hj => by
                    by_cases e : j = k
                    · subst e; exact hc
                    · exact HNO.out j (by omega))
                  clear hc
                  go_wp2
                  go_roundw
                  case rel => exact ⟨rfl, k + 1, by omega, by go_num, HN, by trivial⟩
                  case measure => simp [intOf]; omega
                | true =>
                  have HOR := Lib.hid (HNX.out k hlk hc HNO.out)
                  have hown0 := (HR.out.own.fr (frSet wr w2.heap.size k (.bool true)) (fun b o e e2 => HR.out.ne (by rw [e, e2.1]))).fr ((Fr.refl No _).alloc (.cells #[ivN k] 3)) (fun _ _ _ y => y)
                  have HOW := Lib.hid hown0
                  clear hc hown0
                  go_wp2_with (at_builtin
                               refine wpList_append_sl rfl (.tmp 65) (.tmp 67) 57 57 rfl 3 j0 (.int .i64 0) 1 8 Try.underlying57 hj jz0 jz1 jz2 rfl (by decide) (.slice a l.length c) l.length (l.map ivN) rfl HOW.out _ 1 [ivN k] rfl (src_slice Try.underlying57 (by simp) (fun _ => ⟨wr.heap.size, 0, rfl, row_at (wr.setCell ⟨w2.heap.size, k, none⟩ (.bool true)) #[ivN k] _ rfl wr.heap.size (by simp [World.setCell]) 3 (0, 0)⟩) (by simp [ivN, Value.oneCell'])) (by omega) (by omega) ?_
                               intro v1 w5 hown1 hfr1 hblk1
                               have hro := HR.out.next k #[ivN k] hown1 hfr1 hblk1
                               obtain ⟨a1, c1', hv1, -, -⟩ := hown1.at
                               subst hv1
                               rw [← HOR.out] at hro
                               have HRO2 := Lib.hid hro
                               clear hown1 hfr1 hblk1 hro)
                  go_roundw
                  case rel => exact ⟨l.length + 1, a1, c1', hlt, rfl, HRO2⟩
                  case measure => simp [lenV]; omega
          · exfalso
            obtain ⟨i, hi, _, hc, _⟩ := HEX.out
            rw [x.st_len] at hi
            rw [HNO.out i (by omega)] at hc; cases hc
      · obtain rfl : m = x.sp.length := by omega
        have ho : x.g.orderN x.sp.length = x.g.order := by unfold Gr.order; rw [x.st_len]
        have HE := Lib.hid (RO.done (x := x) (by rw [← ho]; exact HR.out) (K0.out.trans HF2.out) HCZ.out)
        clear ho hok
        go_wp2
        go_ret2
        exact HE.out
  · have hcb : (x.g.check.2 != 0) = true := by simpa using hck
    have HE := Lib.hid (fun (W : World) (h : Fr No w W) => order_none h hck)
    clear hx hsm hck
    generalize x.g.check = ck at *
    go_enter Try.func48, Try.ntmps48
    go_wp2_with (first
      | (go_at_call 45; refine HCK.out.mono ?_; rintro e w2 ⟨rfl, hf2⟩))
    go_ret2
    exact HE.out _ (K0.out.trans hf2)
end Go.Proofs.Ytljldkknopmfhaa
