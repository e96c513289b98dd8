/- Head: what it does with a line. -/
import Derived.Test.YtppgojcfgdooiaaLns
import Derived.Test.YtppgojcfgdooiaaChk
import Derived.Deep.WholeRow
import Derived.Laws.EntriesVeiled
namespace Go.Proofs.Ytppgojcfgdooiaa
open Go.RowKit

/-- How many lines are left, as the program reckons. -/
def headI : Each Int := fun left s => (wrap64 (left - 1), [s ++ [10]], decide (wrap64 (left - 1) = 0))
def HeadT (g : Nat) (w : World) (t : Int) : Prop := w.cell? ⟨g, 71, none⟩ = some (.int .i64 t) ∧ w.frozen? ⟨g, 71, none⟩ = false
theorem headT_fr {g : Nat} {S : Nat → Nat → Prop} {w w' : World} {t : Int} (h : HeadT g w t) (k : Fr S w w') (hS : ∀ o, 71 ≤ o → ¬ S g o) : HeadT g w' t := by
  have hl := World.block_lt_of_cell? w _ h.1
  exact ⟨(k.cell g 71 hl (hS 71 (by omega))).trans h.1, (k.frozen g 71 hl (hS 71 (by omega))).trans h.2⟩
theorem tell_new (s : List UInt8) (W : World) (g : Nat) (hg : g = W.heap.size) (hl : s.length ≤ 100000) :
    Calls Try.prog 43 #[.int .i64 0, .slice (some ⟨g, 0, none⟩) 1 1] (W.alloc (.cells #[sv s] 9)) (PcsPost (W.alloc (.cells #[sv s] 9)) [s ++ [10]]) :=
  tell_one _ _ s _ (fun _ => ⟨g, 0, rfl, row_at W #[sv s] _ rfl g hg 9 (0, 0)⟩) hl
set_option maxHeartbeats 1000000 in
set_option maxRecDepth 100000 in
theorem head_call (g : Nat) (more : Bool) {w : World} {t : Int} (s : List UInt8) (hb : BaseAt w g more false) (hT : HeadT g w t) (h64 : s.length ≤ 64) :
    Calls Try.prog 30 #[.pointer (some ⟨g, 0, none⟩), sv s] w (LinePost (HeadT g) g more (headI t s) w) := by
  obtain ⟨c71, z71⟩ := hT
  have hgl := hb.lt
  unfold headI
  generalize hn : wrap64 (t - 1) = n
  have HN := Lib.hid hn
  have f1 : Fr (LineS g) w (w.setCell ⟨g, 71, none⟩ (.int .i64 n)) := (Fr.refl _ _).setCell (fun _ => ⟨rfl, .inr (by omega)⟩) _
  have b1 : ∀ v, BaseAt (w.setCell ⟨g, 71, none⟩ v) g more false := fun v => hb.fr (S := fun b o => b = g ∧ o = 71) ((Fr.refl _ _).setCell (fun _ => ⟨rfl, rfl⟩) _) (fun o ho e => by have := e.2; omega)
  have t1 : HeadT g (w.setCell ⟨g, 71, none⟩ (.int .i64 n)) n := ⟨World.cell?_setCell_same _ _ _ c71, by rw [World.frozen?_setCell]; exact z71⟩
  have HB1 := Lib.hid b1
  by_cases h0 : n = 0
  · have hd : decide (n = 0) = true := by simp [h0]
    rw [hd]
    have h0b : (n == 0) = true := by simp [h0]
    have H0 := Lib.hid h0
    clear h0 hd
    go_enter Try.func30, Try.ntmps30
    go_wp2_with fail
    refine (stop_b g more false (w.setCell ⟨g, 71, none⟩ (.int .i64 n)) (HB1.out (.int .i64 n))).mono ?_
    rintro e2 w2 ⟨rfl, rfl⟩
    go_wp2_with fail
    refine (tell_new s _ w.heap.size (by simp) (by omega)).mono ?_
    rintro e3 w3 ⟨a3, ps3, c3, rfl, hb3, ho3, hf3⟩
    go_wp2_with fail
    go_ret
    have b1 := HB1.out (.int .i64 n)
    have st : Fr (fun b o => b = g ∧ o = 2) (w.setCell ⟨g, 71, none⟩ (.int .i64 n)) ((w.setCell ⟨g, 71, none⟩ (.int .i64 n)).setCell ⟨g, 2, none⟩ (.bool true)) := (Fr.refl _ _).setCell (fun _ => ⟨rfl, rfl⟩) _
    have b2 : BaseAt ((w.setCell ⟨g, 71, none⟩ (.int .i64 n)).setCell ⟨g, 2, none⟩ (.bool true)) g more true :=
      ⟨(st.cell g 0 b1.lt (fun e => by omega)).trans b1.c0, (st.cell g 1 b1.lt (fun e => by omega)).trans b1.c1, World.cell?_setCell_same _ _ _ b1.c2, (by rw [World.frozen?_setCell]; exact b1.z1), (by rw [World.frozen?_setCell]; exact b1.z2)⟩
    have fa := ((Fr.refl No ((w.setCell ⟨g, 71, none⟩ (.int .i64 n)).setCell ⟨g, 2, none⟩ (.bool true))).alloc (.cells #[sv s] 9)).trans hf3
    have hsz := fa.size
    simp at hsz
    refine ⟨a3, ps3, c3, rfl, hb3, ⟨ho3.cells, fun x off e => by have := ho3.new x off e; simp at this; omega, fun p hp => ⟨(ho3.bytes p hp).1, fun x off e => by have := (ho3.bytes p hp).2 x off e; simp at this; omega⟩⟩,
      b2.fr fa (fun _ _ x => x), headT_fr (headT_fr t1 st (fun o ho e => by omega)) fa (fun _ _ x => x), (f1.step st (fun b o _ e => ⟨e.1, .inl e.2⟩)).step fa (fun _ _ _ x => x.elim)⟩
  · have hd : decide (n = 0) = false := by simp [h0]
    rw [hd]
    have h0b : (n == 0) = false := by simpa using h0
    have H0 := Lib.hid h0
    clear h0 hd
    go_enter Try.func30, Try.ntmps30
    go_wp2_with fail
    refine (tell_new s _ w.heap.size (by simp) (by omega)).mono ?_
    rintro e3 w3 ⟨a3, ps3, c3, rfl, hb3, ho3, hf3⟩
    go_wp2_with fail
    go_ret
    have b1 := HB1.out (.int .i64 n)
    have fa := ((Fr.refl No (w.setCell ⟨g, 71, none⟩ (.int .i64 n))).alloc (.cells #[sv s] 9)).trans hf3
    have hsz := fa.size
    simp at hsz
    refine ⟨a3, ps3, c3, rfl, hb3, ⟨ho3.cells, fun x off e => by have := ho3.new x off e; simp at this; omega, fun p hp => ⟨(ho3.bytes p hp).1, fun x off e => by have := (ho3.bytes p hp).2 x off e; simp at this; omega⟩⟩,
      b1.fr fa (fun _ _ x => x), headT_fr t1 fa (fun _ _ x => x), f1.step fa (fun _ _ _ x => x.elim)⟩
theorem head_ok (g : Nat) : LineOk headI (HeadT g) g 30 false :=
  ⟨fun h k hS => headT_fr h k hS, fun s hb hT h64 => head_call g false s hb hT h64, fun _ _ => rfl⟩
theorem head_each : EachOk headI := ⟨fun t l p hp => by simp [headI] at hp; subst hp; simp, fun t l => by simp [headI]⟩
end Go.Proofs.Ytppgojcfgdooiaa

/- Head: New. -/
namespace Go.Proofs.Ytppgojcfgdooiaa
open Go.RowKit

/-- A new head's cells. -/
def headC (n : Int) : Array Value := ([Value.int .i64 0, Value.bool false, Value.bool false] ++ (List.replicate 64 (Value.int .u8 0) ++ [Value.int .i64 0, Value.bool false]) ++ [Value.nilFunc, Value.nilFunc, Value.int .i64 n]).toArray
theorem head_meth (g : Nat) : (linesMeth 74 g).Ok where
  mN _ := by kernel_rfl
  mH _ := by kernel_rfl
  mF _ := by kernel_rfl
  mE _ := by kernel_rfl
  mM _ := by kernel_rfl
  cN _ _ := by rfl
  cH _ _ := by rfl
  cF _ _ := by rfl
  cE _ _ := by rfl
  cM _ _ := by rfl
theorem head_mach (g : Nat) : Mach (modL headI) (linesMeth 74 g) (LR (HeadT g) g 30) := lines_mach (head_ok g) head_each (head_meth g)
def NoNew (w : World) (r : Int) (e : Ending) (w' : World) : Prop := e = .returned (.tuple #[.nilIface, .int .i64 r]) ∧ Fr No w w'
def HeadNew (w : World) (n : Int) (e : Ending) (w' : World) : Prop :=
  ∃ g, e = .returned (.tuple #[.iface 74 (.pointer (some ⟨g, 0, none⟩)), .int .i64 0]) ∧ w.heap.size ≤ g ∧ LRep (HeadT g) g 30 w' ⟨[], false, decide (n = 0), n⟩ ∧ Fr No w w'
set_option maxRecDepth 100000 in
theorem head_no (k n : Int) (aA aB : Option Addr) (A B : List UInt8) (cA cB : Nat) (w : World) (hA : At w aA (A.map bv)) (hl : A.length ≤ 100000000) (hl2 : B.length ≤ 100000000) (h : fchk 3 k n A B ≠ 0) :
    Calls Try.prog 14 #[.agg #[.int .i64 k, .int .i64 n, .slice aA A.length cA, .slice aB B.length cB]] w (NoNew w (fchk 3 k n A B)) := by
  have hc := fun (W : World) (hW : Fr No w W) => fcheck_any 3 k n aA aB A B cA cB W (at_no hA hW) hl hl2
  generalize fchk 3 k n A B = r at *
  have HC := Lib.hid hc; clear hc
  have hrb : (r != 0) = true := by simpa using h
  clear h
  go_enter Try.func14, Try.ntmps14
  go_wp2_with (go_at_call 29; refine (HC.out _ ((Fr.refl No w).alloc _)).mono ?_; rintro e1 w1 ⟨rfl, hfr1⟩)
  go_ret2
  exact ⟨rfl, ((Fr.refl _ _).alloc _).trans hfr1⟩
theorem headC_cell (n : Int) : (headC n)[0]? = some (.int .i64 0) ∧ (headC n)[1]? = some (.bool false) ∧ (headC n)[2]? = some (.bool false) ∧ (headC n)[69]? = some .nilFunc ∧ (headC n)[70]? = some .nilFunc ∧ (headC n)[71]? = some (.int .i64 n) ∧ ∀ i, i < 66 → (headC n)[3 + i]? = splZero[i]? := by
  refine ⟨rfl, rfl, rfl, rfl, rfl, rfl, fun i hi => ?_⟩
  unfold headC splZero
  rw [List.getElem?_toArray, List.getElem?_toArray, List.append_assoc, List.getElem?_append_right (by simp)]
  rw [show 3 + i - [Value.int .i64 0, Value.bool false, Value.bool false].length = i from by simp]
  rw [List.getElem?_append_left (by simp; omega)]
theorem headC_eq (n : Int) : Try.zeroCells85.setIfInBounds 71 (.int .i64 n) = headC n := by
  have e : Try.zeroCells85 = headC 0 := by kernel_rfl
  rw [e]; rfl
set_option maxHeartbeats 4000000 in
set_option maxRecDepth 100000 in
theorem head_yes (n : Int) (aA aB : Option Addr) (A B : List UInt8) (cA cB : Nat) (w : World) (hA : At w aA (A.map bv)) (hl : A.length ≤ 100000000) (hl2 : B.length ≤ 100000000) (h : fchk 3 3 n A B = 0) :
    Calls Try.prog 14 #[.agg #[.int .i64 3, .int .i64 n, .slice aA A.length cA, .slice aB B.length cB]] w (HeadNew w n) := by
  have hc := fun (W : World) (hW : Fr No w W) => fcheck_any 3 3 n aA aB A B cA cB W (at_no hA hW) hl hl2
  rw [h] at hc
  clear h
  have HC := Lib.hid hc; clear hc
  obtain ⟨d0, d1, d2, d69, d70, d71, dspl⟩ := headC_cell n
  have y69 : (Try.zeroCells85.setIfInBounds 71 (.int .i64 n))[69]? = some .nilFunc := by rw [headC_eq]; exact d69
  have y71 : (Try.zeroCells85.setIfInBounds 71 (.int .i64 n))[71]? = some (.int .i64 n) := by rw [headC_eq]; exact d71
  have REP := Lib.hid (fun (W : World) => (show LRep (HeadT W.heap.size) W.heap.size 30 (W.alloc (.cells ((Try.zeroCells85.setIfInBounds 71 (.int .i64 n)).setIfInBounds 69 (evC 30 W.heap.size)) 85)) ⟨[], false, false, n⟩ from by
    rw [headC_eq, ← World.setCell_alloc_new]
    have c := fun o => World.cell?_alloc_new W (headC n) 85 (i := o)
    have z := fun o => World.frozen?_alloc_new W (headC n) 85 o
    have st : Fr (fun b o => b = W.heap.size ∧ o = 69) (W.alloc (.cells (headC n) 85)) ((W.alloc (.cells (headC n) 85)).setCell ⟨W.heap.size, 69, none⟩ (evC 30 W.heap.size)) := (Fr.refl _ _).setCell (fun _ => ⟨rfl, rfl⟩) _
    have hl : W.heap.size < (W.alloc (.cells (headC n) 85)).heap.size := by simp
    exact ⟨⟨(st.cell _ 0 hl (fun e => by omega)).trans ((c 0).trans d0), (st.cell _ 1 hl (fun e => by omega)).trans ((c 1).trans d1), (st.cell _ 2 hl (fun e => by omega)).trans ((c 2).trans d2), (st.frozen _ 1 hl (fun e => by omega)).trans (z 1), (st.frozen _ 2 hl (fun e => by omega)).trans (z 2)⟩,
      (spl_new W (headC n) 85 3 dspl).fr st (fun i hi e => by omega), World.cell?_setCell_same _ _ _ ((c 69).trans d69), (st.cell _ 70 hl (fun e => by omega)).trans ((c 70).trans d70),
      ⟨(st.cell _ 71 hl (fun e => by omega)).trans ((c 71).trans d71), (st.frozen _ 71 hl (fun e => by omega)).trans (z 71)⟩, fun _ => rfl⟩))
  clear d0 d1 d2 d69 d70 d71 dspl
  by_cases hn : n = 0
  · subst hn
    go_enter Try.func14, Try.ntmps14
    go_wp2_with (first
      | (go_at_call 29; refine (HC.out _ ((Fr.refl No w).alloc _)).mono ?_; rintro e1 w1 ⟨rfl, hfr1⟩; obtain ⟨b1, z1⟩ := box_at hfr1; have b10 := b1 1)
      | (go_at_call 31; refine (stop_b w1.heap.size false false _ (REP.out w1).base).mono ?_; rintro e2 w2 ⟨rfl, rfl⟩))
    go_ret2
    have r := REP.out w1
    have hl := r.base.lt
    have hs := hfr1.size
    simp at hs
    have key : ∀ W : World, LRep (HeadT w1.heap.size) w1.heap.size 30 W ⟨[], false, false, 0⟩ → w1.heap.size < W.heap.size → LRep (HeadT w1.heap.size) w1.heap.size 30 (W.setCell ⟨w1.heap.size, 2, none⟩ (.bool true)) ⟨[], false, true, 0⟩ := fun W r hl => by
      have st : Fr (fun b o => b = w1.heap.size ∧ o = 2) W (W.setCell ⟨w1.heap.size, 2, none⟩ (.bool true)) := (Fr.refl _ W).setCell (fun _ => ⟨rfl, rfl⟩) _
      exact ⟨⟨(st.cell _ 0 hl (fun e => by omega)).trans r.base.c0, (st.cell _ 1 hl (fun e => by omega)).trans r.base.c1, World.cell?_setCell_same _ _ _ r.base.c2, (st.frozen _ 1 hl (fun e => by omega)).trans r.base.z1, (by rw [World.frozen?_setCell]; exact r.base.z2)⟩,
        r.spl.fr st (fun i hi e => by omega), (st.cell _ 69 hl (fun e => by omega)).trans r.each, (st.cell _ 70 hl (fun e => by omega)).trans r.last, headT_fr r.own st (fun o ho e => by omega), fun e => by simp at e⟩
    refine ⟨w1.heap.size, rfl, by omega, ?_, ?_⟩
    · first | exact key _ r hl | (rw [← World.setCell_alloc_new]; exact key _ r hl)
    · first | exact ((((Fr.refl No w).alloc _).trans hfr1).alloc _) | exact (((((Fr.refl No w).alloc _).trans hfr1).alloc _).setCell (fun h => absurd h (by omega)) _)
  · have hnb : (n == 0) = false := by simpa using hn
    have hd : decide (n = 0) = false := by simpa using hn
    have HN := Lib.hid hd; clear hn hd
    go_enter Try.func14, Try.ntmps14
    go_wp2_with (go_at_call 29; refine (HC.out _ ((Fr.refl No w).alloc _)).mono ?_; rintro e1 w1 ⟨rfl, hfr1⟩; obtain ⟨b1, z1⟩ := box_at hfr1; have b10 := b1 1)
    go_ret2
    have hs := hfr1.size
    simp at hs
    refine ⟨w1.heap.size, rfl, by omega, by rw [HN.out]; exact REP.out w1, ?_⟩
    exact (((Fr.refl No w).alloc _).trans hfr1).alloc _
end Go.Proofs.Ytppgojcfgdooiaa
