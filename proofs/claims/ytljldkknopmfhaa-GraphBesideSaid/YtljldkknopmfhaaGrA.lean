/- Graphs: at, Ins, Outs. -/
import Derived.Test.YtljldkknopmfhaaGrW
import Derived.Deep.MidRow
namespace Go.Proofs.Ytljldkknopmfhaa
open Go.RowKit

theorem run_index_tab (f : Nat → Value) (k : Nat) (hk : k < 16) (a : Option Addr) (n c : Nat) (hf : f k = .slice a n c) (W : World) : (Instr.index 100 (.agg (tabC 16 f)) (.int .i64 k)).run Try.prog W = .ok (.slice a n c) W := by
  have hsz : (Try.prog.info? 57).map (·.size) = some 1 := by kernel_rfl
  obtain ⟨i, hi, hs⟩ : ∃ i, Try.prog.info? 57 = some i ∧ i.size = 1 := by
    cases h : Try.prog.info? 57 with
    | none => rw [h] at hsz; cases hsz
    | some i => exact ⟨i, rfl, by rw [h] at hsz; injection hsz⟩
  simp [Instr.index, run_underlying Try.underlying100, run_underlying Try.underlying57, asIntOf, part, isAgg, sizeOf, typeInfo, hi, hs, tabC_get f hk, hf]
  intro h; omega
def ArrPost (w : World) (f : Nat → Value) (e : Ending) (w' : World) : Prop := e = .returned (.agg (tabC 16 f)) ∧ Fr No w w'
theorem range_tab {W : World} {b o : Nat} {f : Nat → Value} (h : W.heap[b]? = some (.cells (tabC 32 f) 102 (0, 0))) (ho : o ≤ 16) : W.rangeAt b o ((List.range 16).map fun i => f (o + i)) := by
  intro j v hj
  have hj' : j < 16 := by
    have := (List.getElem?_eq_some_iff.1 hj).1
    simpa using this
  rw [cell_block h, tabC_get f (by omega)]
  simpa [hj'] using hj
theorem arr_size (f : Nat → Value) : (Try.prog.info? 100).map (·.size) = some (tabC 16 f).size := by rw [tabC_size]; kernel_rfl
set_option maxRecDepth 100000 in
theorem insF_any (f : Nat → Value) (h1 : ∀ k, k < 32 → (f k).oneCell' = true) (w : World) : Calls Try.prog 76 #[.agg (tabC 32 f)] w (ArrPost w f) := by
  have hb1 : ∀ C : Array Value, ((w.alloc (.cells (tabC 32 f) 102)).alloc (.cells C 100)).heap[w.heap.size]? = some (.cells (tabC 32 f) 102 (0, 0)) := fun C => box_block ((Fr.refl No _).alloc _)
  have hb2 : ∀ C : Array Value, ((w.alloc (.cells (tabC 32 f) 102)).alloc (.cells C 100)).heap[w.heap.size + 1]? = some (.cells C 100 (0, 0)) := fun C => by have := heap_alloc_new (w.alloc (.cells (tabC 32 f) 102)) (.cells C 100); simpa using this
  have H1C := Lib.hid (show (tabC 16 f).all (·.oneCell') = true from tabC_all fun k hk => h1 k (by omega))
  have HB1 := Lib.hid hb1; have HB2 := Lib.hid hb2
  clear hb1 hb2 h1
  go_enter Try.func76, Try.ntmps76
  go_wp2_with (first
    | (refine wpList_load_mid rfl 100 _ rfl w.heap.size 0 rfl ((List.range 16).map fun i => f (0 + i)) _ (range_tab (HB1.out _) (by omega)) Try.underlying100 rfl (by kernel_rfl) ?_
       rw [show ((List.range 16).map fun i => f (0 + i)).toArray = tabC 16 f from by simp [tabC]])
    | (refine wpList_store_row rfl 100 _ _ rfl (w.heap.size + 1) (tabC 16 f) rfl rfl 100 _ (HB2.out _) (arr_size f) (by rw [tabC_size]; rfl) H1C.out ?_))
  exact bodyPost_ret (v := .agg (tabC 16 f)) (results_cell_row (p := 2) (ty := 100) (by kernel_rfl) _ _ (w.heap.size + 1) 100 (tabC 16 f) (0, 0) _ rfl (setRow_heap _ _ _ _ _ _ (HB2.out _)) Try.underlying100 rfl (arr_size f)) rfl
    ⟨rfl, (((Fr.refl No w).alloc _).alloc _).step (frSetRow _ _ _) (fun b o hb e => by omega)⟩
set_option maxRecDepth 100000 in
theorem outsF_any (f : Nat → Value) (h1 : ∀ k, k < 32 → (f k).oneCell' = true) (w : World) : Calls Try.prog 77 #[.agg (tabC 32 f)] w (ArrPost w fun i => f (16 + i)) := by
  have hb1 : ∀ C : Array Value, ((w.alloc (.cells (tabC 32 f) 102)).alloc (.cells C 100)).heap[w.heap.size]? = some (.cells (tabC 32 f) 102 (0, 0)) := fun C => box_block ((Fr.refl No _).alloc _)
  have hb2 : ∀ C : Array Value, ((w.alloc (.cells (tabC 32 f) 102)).alloc (.cells C 100)).heap[w.heap.size + 1]? = some (.cells C 100 (0, 0)) := fun C => by have := heap_alloc_new (w.alloc (.cells (tabC 32 f) 102)) (.cells C 100); simpa using this
  have H1C := Lib.hid (show (tabC 16 fun i => f (16 + i)).all (·.oneCell') = true from tabC_all fun k hk => h1 (16 + k) (by omega))
  have HB1 := Lib.hid hb1; have HB2 := Lib.hid hb2
  clear hb1 hb2 h1
  go_enter Try.func77, Try.ntmps77
  go_wp2_with (first
    | (refine wpList_load_mid rfl 100 _ rfl w.heap.size 16 rfl ((List.range 16).map fun i => f (16 + i)) _ (range_tab (HB1.out _) (by omega)) Try.underlying100 rfl (by kernel_rfl) ?_
       rw [show ((List.range 16).map fun i => f (16 + i)).toArray = tabC 16 fun i => f (16 + i) from rfl])
    | (refine wpList_store_row rfl 100 _ _ rfl (w.heap.size + 1) (tabC 16 fun i => f (16 + i)) rfl rfl 100 _ (HB2.out _) (arr_size _) (by rw [tabC_size]; rfl) H1C.out ?_))
  exact bodyPost_ret (v := .agg (tabC 16 fun i => f (16 + i))) (results_cell_row (p := 2) (ty := 100) (by kernel_rfl) _ _ (w.heap.size + 1) 100 (tabC 16 fun i => f (16 + i)) (0, 0) _ rfl (setRow_heap _ _ _ _ _ _ (HB2.out _)) Try.underlying100 rfl (arr_size _)) rfl
    ⟨rfl, (((Fr.refl No w).alloc _).alloc _).step (frSetRow _ _ _) (fun b o hb e => by omega)⟩
/-- A row of numbers that is told. -/
def RowPost (w : World) (l : List Int) (e : Ending) (w' : World) : Prop := ∃ a c, e = .returned (.slice a l.length c) ∧ At w' a (l.map iv) ∧ Fr No w w'
set_option maxHeartbeats 2000000 in
set_option maxRecDepth 100000 in
theorem at_ins (w : World) (x : Gv) (hx : x.Ok w) (hsm : Sml x) (s : Int) : Calls Try.prog 75 #[.agg #[.slice x.sa x.sp.length x.sc, .slice x.da x.du.length x.dc], .int .i64 s, .func (.func 76) #[] #[]] w (RowPost w (x.g.insL s)) := by
  have hc0 : ((w.alloc (.cells #[.slice x.sa x.sp.length x.sc, .slice x.da x.du.length x.dc] 63))).heap[w.heap.size]? = some (.cells #[.slice x.sa x.sp.length x.sc, .slice x.da x.du.length x.dc] 63 (0, 0)) := heap_alloc_new w _
  have HW := Lib.hid (whole_any (w.alloc (.cells #[.slice x.sa x.sp.length x.sc, .slice x.da x.du.length x.dc] 63)) x (hx.fr ((Fr.refl No w).alloc _)) hsm)
  have HK := Lib.hid ((Fr.refl No w).alloc (.cells #[.slice x.sa x.sp.length x.sc, .slice x.da x.du.length x.dc] 63))
  have HG := Lib.hid (fun (W : World) (h : Fr No (w.alloc (.cells #[.slice x.sa x.sp.length x.sc, .slice x.da x.du.length x.dc] 63)) W) => (h.block _ (by simp) (fun _ y => y)).trans hc0)
  have HFN := Lib.hid (fun f h1 W => insF_any f h1 W)
  have HNO := Lib.hid (fun (W : World) (h : Fr No w W) (e : x.g.insL s = []) => show RowPost w (x.g.insL s) (.returned (.slice none 0 0)) W from by rw [e]; exact ⟨none, 0, rfl, At.nil _ _, h⟩)
  have hLL : x.g.insL s = if x.g.check.2 = 0 ∧ 0 ≤ s ∧ s < x.g.st.length then x.g.insOf s.toNat else [] := rfl
  rw [x.st_len] at hLL
  by_cases hck : x.g.check.2 = 0
  · have hn16 : x.sp.length ≤ 16 := by have := ((check_ok x.g).1 hck).ns; rwa [x.st_len] at this
    unfold WholePost at HW
    by_cases h1 : s < 0
    · have hno := Lib.hid (HNO.out · · (by rw [hLL, if_neg (by omega)]))
      rw [hck] at HW
      clear hx hsm hLL hck
      go_enter Try.func75, Try.ntmps75
      go_wp2_with (first
        | (go_at_call 70; refine HW.out.mono ?_; rintro e w2 ⟨f, rfl, hf2, hone, -⟩
           have HF2 := Lib.hid hf2; have H1C := Lib.hid (tabC_all hone)
           clear hf2 hone)
        | (refine wpList_store_row rfl 102 (.tmp 7) (.tmp 13) rfl w2.heap.size (tabC 32 f) rfl rfl 102 _ (heap_alloc_last w2 _) (portsz f) (by rw [tabC_size]; rfl) H1C.out ?_
           rw [World.setRow_alloc_new]))
      go_ret
      exact hno.out _ ((HK.out.trans HF2.out).alloc _)
    · by_cases h2 : s < x.sp.length
      · obtain ⟨k, rfl⟩ : ∃ k : Nat, s = k := ⟨s.toNat, by omega⟩
        have hk : k < x.sp.length := by omega
        have hYES := Lib.hid (fun (f : Nat → Value) (W : World) (h : Fr No w W) (hr : Rows32 W w.heap.size x f) => show ∃ a n c, f k = .slice a n c ∧ RowPost w (x.g.insL k) (.returned (.slice a n c)) W from by
          have hs := (hr (k) (by omega)).slice
          rw [tab_ins x (by omega)] at hs
          obtain ⟨a, e1, e2⟩ := hs
          rw [hLL, if_pos ⟨hck, by omega, h2⟩, Int.toNat_natCast]
          exact ⟨a, _, _, e1, a, _, rfl, e2, h⟩)
        rw [hck] at HW
        clear hx hsm hLL hck HNO h1
        go_enter Try.func75, Try.ntmps75
        go_wp2_with (first
          | (go_at_call 70; refine HW.out.mono ?_; rintro e w2 ⟨f, rfl, hf2, hone, hrows⟩
             have HF2 := Lib.hid hf2; have H1 := Lib.hid hone; have H1C := Lib.hid (tabC_all hone); have HR := Lib.hid ((hrows rfl).low (lo' := w.heap.size) (by simp))
             clear hf2 hone hrows)
          | (refine wpList_store_row rfl 102 (.tmp 7) (.tmp 13) rfl w2.heap.size (tabC 32 f) rfl rfl 102 _ (heap_alloc_last w2 _) (portsz f) (by rw [tabC_size]; rfl) H1C.out ?_
             rw [World.setRow_alloc_new]
             have HB2 := Lib.hid (heap_alloc_new w2 (.cells (tabC 32 f) 102))
             have HF3 := Lib.hid ((Fr.refl No w2).alloc (.cells (tabC 32 f) 102))
             have c0 := cell_block (HG.out _ (HF2.out.trans HF3.out)) 0
             generalize w2.alloc (.cells (tabC 32 f) 102) = w3 at *)
          | (refine wpList_load_row rfl 102 _ rfl w2.heap.size rfl 102 (tabC 32 f) (0, 0) _ HB2.out Try.underlying102 rfl (portsz f) ?_)
          | (go_at_call 76; refine (HFN.out f H1.out _).mono ?_; rintro e w4 ⟨rfl, hf4⟩
             obtain ⟨ra, rn, rc, hra, hrp⟩ := hYES.out f w4 ((HK.out.trans HF2.out).trans (HF3.out.trans hf4)) (Rows32.fr HR.out (HF3.out.trans hf4) (fun _ _ _ _ y => y))
             have hix := run_index_tab (f) k (by omega) ra rn rc hra
             have HRP := Lib.hid hrp
             clear hra hrp hf4))
        go_ret
        exact HRP.out
      · have hno := Lib.hid (HNO.out · · (by rw [hLL, if_neg (by omega)]))
        rw [hck] at HW
        clear hx hsm hLL hck HNO
        obtain ⟨q, rfl⟩ : ∃ q : Nat, s = q := ⟨s.toNat, by omega⟩
        clear h1
        go_enter Try.func75, Try.ntmps75
        go_wp2_with (first
          | (go_at_call 70; refine HW.out.mono ?_; rintro e w2 ⟨f, rfl, hf2, hone, -⟩
             have HF2 := Lib.hid hf2; have H1C := Lib.hid (tabC_all hone)
             clear hf2 hone)
          | (refine wpList_store_row rfl 102 (.tmp 7) (.tmp 13) rfl w2.heap.size (tabC 32 f) rfl rfl 102 _ (heap_alloc_last w2 _) (portsz f) (by rw [tabC_size]; rfl) H1C.out ?_
             rw [World.setRow_alloc_new]
             have HF3 := Lib.hid ((Fr.refl No w2).alloc (.cells (tabC 32 f) 102))
             have c0 := cell_block (HG.out _ (HF2.out.trans HF3.out)) 0
             generalize w2.alloc (.cells (tabC 32 f) 102) = w3 at *))
        go_ret
        exact hno.out _ ((HK.out.trans HF2.out).trans HF3.out)
  · have hno := Lib.hid (HNO.out · · (by rw [hLL, if_neg (fun e => hck e.1)]))
    have hcb : (x.g.check.2 != 0) = true := by simpa using hck
    unfold WholePost at HW
    clear hx hsm hLL hck HNO
    generalize x.g.check = ck at *
    go_enter Try.func75, Try.ntmps75
    go_wp2_with (first
      | (go_at_call 70; refine HW.out.mono ?_; rintro e w2 ⟨f, rfl, hf2, hone, -⟩
         have HF2 := Lib.hid hf2; have H1C := Lib.hid (tabC_all hone)
         clear hf2 hone)
      | (refine wpList_store_row rfl 102 (.tmp 7) (.tmp 13) rfl w2.heap.size (tabC 32 f) rfl rfl 102 _ (heap_alloc_last w2 _) (portsz f) (by rw [tabC_size]; rfl) H1C.out ?_
         rw [World.setRow_alloc_new]))
    go_ret
    exact hno.out _ ((HK.out.trans HF2.out).alloc _)
set_option maxRecDepth 100000 in
theorem ins_graph (w : World) (x : Gv) (hx : x.Ok w) (hsm : Sml x) (s : Int) : Calls Try.prog 50 #[.agg #[.slice x.sa x.sp.length x.sc, .slice x.da x.du.length x.dc], .int .i64 s] w (RowPost w (x.g.insL s)) := by
  have HA := Lib.hid (at_ins (w.alloc (.cells #[.slice x.sa x.sp.length x.sc, .slice x.da x.du.length x.dc] 63)) x (hx.fr ((Fr.refl No w).alloc _)) hsm s)
  generalize x.g.insL s = l at *
  clear hx hsm
  go_enter Try.func50, Try.ntmps50
  go_wp2_with (go_at_call 75; refine HA.out.mono ?_; rintro e w2 ⟨a, c, rfl, hat, hf⟩)
  go_ret
  exact ⟨a, c, rfl, hat, ((Fr.refl No w).alloc _).trans hf⟩
set_option maxHeartbeats 2000000 in
set_option maxRecDepth 100000 in
theorem at_outs (w : World) (x : Gv) (hx : x.Ok w) (hsm : Sml x) (s : Int) : Calls Try.prog 75 #[.agg #[.slice x.sa x.sp.length x.sc, .slice x.da x.du.length x.dc], .int .i64 s, .func (.func 77) #[] #[]] w (RowPost w (x.g.outsL s)) := by
  have hc0 : ((w.alloc (.cells #[.slice x.sa x.sp.length x.sc, .slice x.da x.du.length x.dc] 63))).heap[w.heap.size]? = some (.cells #[.slice x.sa x.sp.length x.sc, .slice x.da x.du.length x.dc] 63 (0, 0)) := heap_alloc_new w _
  have HW := Lib.hid (whole_any (w.alloc (.cells #[.slice x.sa x.sp.length x.sc, .slice x.da x.du.length x.dc] 63)) x (hx.fr ((Fr.refl No w).alloc _)) hsm)
  have HK := Lib.hid ((Fr.refl No w).alloc (.cells #[.slice x.sa x.sp.length x.sc, .slice x.da x.du.length x.dc] 63))
  have HG := Lib.hid (fun (W : World) (h : Fr No (w.alloc (.cells #[.slice x.sa x.sp.length x.sc, .slice x.da x.du.length x.dc] 63)) W) => (h.block _ (by simp) (fun _ y => y)).trans hc0)
  have HFN := Lib.hid (fun f h1 W => outsF_any f h1 W)
  have HNO := Lib.hid (fun (W : World) (h : Fr No w W) (e : x.g.outsL s = []) => show RowPost w (x.g.outsL s) (.returned (.slice none 0 0)) W from by rw [e]; exact ⟨none, 0, rfl, At.nil _ _, h⟩)
  have hLL : x.g.outsL s = if x.g.check.2 = 0 ∧ 0 ≤ s ∧ s < x.g.st.length then x.g.outsOf s.toNat else [] := rfl
  rw [x.st_len] at hLL
  by_cases hck : x.g.check.2 = 0
  · have hn16 : x.sp.length ≤ 16 := by have := ((check_ok x.g).1 hck).ns; rwa [x.st_len] at this
    unfold WholePost at HW
    by_cases h1 : s < 0
    · have hno := Lib.hid (HNO.out · · (by rw [hLL, if_neg (by omega)]))
      rw [hck] at HW
      clear hx hsm hLL hck
      go_enter Try.func75, Try.ntmps75
      go_wp2_with (first
        | (go_at_call 70; refine HW.out.mono ?_; rintro e w2 ⟨f, rfl, hf2, hone, -⟩
           have HF2 := Lib.hid hf2; have H1C := Lib.hid (tabC_all hone)
           clear hf2 hone)
        | (refine wpList_store_row rfl 102 (.tmp 7) (.tmp 13) rfl w2.heap.size (tabC 32 f) rfl rfl 102 _ (heap_alloc_last w2 _) (portsz f) (by rw [tabC_size]; rfl) H1C.out ?_
           rw [World.setRow_alloc_new]))
      go_ret
      exact hno.out _ ((HK.out.trans HF2.out).alloc _)
    · by_cases h2 : s < x.sp.length
      · obtain ⟨k, rfl⟩ : ∃ k : Nat, s = k := ⟨s.toNat, by omega⟩
        have hk : k < x.sp.length := by omega
        have hYES := Lib.hid (fun (f : Nat → Value) (W : World) (h : Fr No w W) (hr : Rows32 W w.heap.size x f) => show ∃ a n c, f (16 + k) = .slice a n c ∧ RowPost w (x.g.outsL k) (.returned (.slice a n c)) W from by
          have hs := (hr (16 + k) (by omega)).slice
          rw [tab_outs] at hs
          obtain ⟨a, e1, e2⟩ := hs
          rw [hLL, if_pos ⟨hck, by omega, h2⟩, Int.toNat_natCast]
          exact ⟨a, _, _, e1, a, _, rfl, e2, h⟩)
        rw [hck] at HW
        clear hx hsm hLL hck HNO h1
        go_enter Try.func75, Try.ntmps75
        go_wp2_with (first
          | (go_at_call 70; refine HW.out.mono ?_; rintro e w2 ⟨f, rfl, hf2, hone, hrows⟩
             have HF2 := Lib.hid hf2; have H1 := Lib.hid hone; have H1C := Lib.hid (tabC_all hone); have HR := Lib.hid ((hrows rfl).low (lo' := w.heap.size) (by simp))
             clear hf2 hone hrows)
          | (refine wpList_store_row rfl 102 (.tmp 7) (.tmp 13) rfl w2.heap.size (tabC 32 f) rfl rfl 102 _ (heap_alloc_last w2 _) (portsz f) (by rw [tabC_size]; rfl) H1C.out ?_
             rw [World.setRow_alloc_new]
             have HB2 := Lib.hid (heap_alloc_new w2 (.cells (tabC 32 f) 102))
             have HF3 := Lib.hid ((Fr.refl No w2).alloc (.cells (tabC 32 f) 102))
             have c0 := cell_block (HG.out _ (HF2.out.trans HF3.out)) 0
             generalize w2.alloc (.cells (tabC 32 f) 102) = w3 at *)
          | (refine wpList_load_row rfl 102 _ rfl w2.heap.size rfl 102 (tabC 32 f) (0, 0) _ HB2.out Try.underlying102 rfl (portsz f) ?_)
          | (go_at_call 77; refine (HFN.out f H1.out _).mono ?_; rintro e w4 ⟨rfl, hf4⟩
             obtain ⟨ra, rn, rc, hra, hrp⟩ := hYES.out f w4 ((HK.out.trans HF2.out).trans (HF3.out.trans hf4)) (Rows32.fr HR.out (HF3.out.trans hf4) (fun _ _ _ _ y => y))
             have hix := run_index_tab (fun i => f (16 + i)) k (by omega) ra rn rc hra
             have HRP := Lib.hid hrp
             clear hra hrp hf4))
        go_ret
        exact HRP.out
      · have hno := Lib.hid (HNO.out · · (by rw [hLL, if_neg (by omega)]))
        rw [hck] at HW
        clear hx hsm hLL hck HNO
        obtain ⟨q, rfl⟩ : ∃ q : Nat, s = q := ⟨s.toNat, by omega⟩
        clear h1
        go_enter Try.func75, Try.ntmps75
        go_wp2_with (first
          | (go_at_call 70; refine HW.out.mono ?_; rintro e w2 ⟨f, rfl, hf2, hone, -⟩
             have HF2 := Lib.hid hf2; have H1C := Lib.hid (tabC_all hone)
             clear hf2 hone)
          | (refine wpList_store_row rfl 102 (.tmp 7) (.tmp 13) rfl w2.heap.size (tabC 32 f) rfl rfl 102 _ (heap_alloc_last w2 _) (portsz f) (by rw [tabC_size]; rfl) H1C.out ?_
             rw [World.setRow_alloc_new]
             have HF3 := Lib.hid ((Fr.refl No w2).alloc (.cells (tabC 32 f) 102))
             have c0 := cell_block (HG.out _ (HF2.out.trans HF3.out)) 0
             generalize w2.alloc (.cells (tabC 32 f) 102) = w3 at *))
        go_ret
        exact hno.out _ ((HK.out.trans HF2.out).trans HF3.out)
  · have hno := Lib.hid (HNO.out · · (by rw [hLL, if_neg (fun e => hck e.1)]))
    have hcb : (x.g.check.2 != 0) = true := by simpa using hck
    unfold WholePost at HW
    clear hx hsm hLL hck HNO
    generalize x.g.check = ck at *
    go_enter Try.func75, Try.ntmps75
    go_wp2_with (first
      | (go_at_call 70; refine HW.out.mono ?_; rintro e w2 ⟨f, rfl, hf2, hone, -⟩
         have HF2 := Lib.hid hf2; have H1C := Lib.hid (tabC_all hone)
         clear hf2 hone)
      | (refine wpList_store_row rfl 102 (.tmp 7) (.tmp 13) rfl w2.heap.size (tabC 32 f) rfl rfl 102 _ (heap_alloc_last w2 _) (portsz f) (by rw [tabC_size]; rfl) H1C.out ?_
         rw [World.setRow_alloc_new]))
    go_ret
    exact hno.out _ ((HK.out.trans HF2.out).alloc _)
set_option maxRecDepth 100000 in
theorem outs_graph (w : World) (x : Gv) (hx : x.Ok w) (hsm : Sml x) (s : Int) : Calls Try.prog 51 #[.agg #[.slice x.sa x.sp.length x.sc, .slice x.da x.du.length x.dc], .int .i64 s] w (RowPost w (x.g.outsL s)) := by
  have HA := Lib.hid (at_outs (w.alloc (.cells #[.slice x.sa x.sp.length x.sc, .slice x.da x.du.length x.dc] 63)) x (hx.fr ((Fr.refl No w).alloc _)) hsm s)
  generalize x.g.outsL s = l at *
  clear hx hsm
  go_enter Try.func51, Try.ntmps51
  go_wp2_with (go_at_call 75; refine HA.out.mono ?_; rintro e w2 ⟨a, c, rfl, hat, hf⟩)
  go_ret
  exact ⟨a, c, rfl, hat, ((Fr.refl No w).alloc _).trans hf⟩
end Go.Proofs.Ytljldkknopmfhaa
