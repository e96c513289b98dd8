/- Match: it is a machine of lines; New. -/
import Derived.Test.YtcplbhjpefmliaaMaA
import Derived.Test.YtcplbhjpefmliaaChk
namespace Go.Proofs.Ytcplbhjpefmliaa
open Go.RowKit

/-- Nothing is a machine. -/
theorem mach_none {σ : Type} {M : Mod σ} {m : Meth} {R : World → (Nat → Prop) → σ → Prop} (hm : m.Ok) (h : ∀ w F s, ¬ R w F s) : Mach M m R where
  ok := hm
  fr hr := absurd hr (h _ _ _)
  base hr := absurd hr (h _ _ _)
  lt hr := absurd hr (h _ _ _)
  need3 hr := absurd hr (h _ _ _)
  need hr := absurd hr (h _ _ _)
  held hr := absurd hr (h _ _ _)
  heldB hr := absurd hr (h _ _ _)
  feed hr := absurd hr (h _ _ _)
  fin hr := absurd hr (h _ _ _)
  more hr := absurd hr (h _ _ _)
theorem refuses_none {σ : Type} {M : Mod σ} {m : Meth} {R : World → (Nat → Prop) → σ → Prop} (h : ∀ w F s, ¬ R w F s) : Refuses M m R where
  feed hr := absurd hr (h _ _ _)
  fin hr := absurd hr (h _ _ _)
  more hr := absurd hr (h _ _ _)
set_option maxRecDepth 100000 in
theorem ma_meth (g : Nat) : (linesMeth 113 g 1).Ok where
  mN _ := by kernel_rfl
  mH _ := by kernel_rfl
  mF _ := by kernel_rfl
  mE _ := by kernel_rfl
  mM _ := by kernel_rfl
  cN _ _ := by rfl
  cH _ _ := by rfl
  cF _ _ := by rfl
  cE _ _ := by rfl
  cM _ _ := by rfl
/-- A new match's cells. -/
def maC (A : List UInt8) (not : Bool) : Array Value := ([Value.int .i64 0, Value.bool false, Value.bool false] ++ (List.replicate 64 (Value.int .u8 0) ++ [Value.int .i64 0, Value.bool false]) ++ [Value.nilFunc, Value.nilFunc, sv A, Value.bool not]).toArray
def NoNew (w : World) (r : Int) (e : Ending) (w' : World) : Prop := e = .returned (.tuple #[.nilIface, .int .i64 r]) ∧ Fr No w w'
def MaNew (w : World) (A : List UInt8) (not : Bool) (e : Ending) (w' : World) : Prop :=
  ∃ g, e = .returned (.tuple #[.iface 113 (.pointer (some ⟨g, 0, none⟩)), .int .i64 0]) ∧ w.heap.size ≤ g ∧ LR (MaT g A not) g 68 w' (fun y => y = g) ⟨[], false, false, ()⟩ ∧ Fr No w w'
set_option maxRecDepth 100000 in
theorem ma_no (k n : Int) (aA aB : Option Addr) (A B : List UInt8) (cA cB : Nat) (w : World) (hA : At w aA (A.map bv)) (hl : A.length ≤ 100000000) (hl2 : B.length ≤ 100000000) (h : fchk 5 k n A B ≠ 0) :
    Calls Try.prog 50 #[.agg #[.int .i64 k, .int .i64 n, .slice aA A.length cA, .slice aB B.length cB]] w (NoNew w (fchk 5 k n A B)) := by
  have hc := fun (W : World) (hW : Fr No w W) => fcheck_any 5 k n aA aB A B cA cB W (at_no hA hW) hl hl2
  generalize fchk 5 k n A B = r at *
  have HC := Lib.hid hc; clear hc
  have hrb : (r != 0) = true := by simpa using h
  clear h
  go_enter Try.func50, Try.ntmps50
  go_wp2_with (go_at_call 58; refine (HC.out _ ((Fr.refl No w).alloc _)).mono ?_; rintro e1 w1 ⟨rfl, hfr1⟩)
  go_ret2
  exact ⟨rfl, ((Fr.refl _ _).alloc _).trans hfr1⟩
theorem maC_cell (A : List UInt8) (not : Bool) : (maC A not)[0]? = some (.int .i64 0) ∧ (maC A not)[1]? = some (.bool false) ∧ (maC A not)[2]? = some (.bool false) ∧ (maC A not)[69]? = some .nilFunc ∧ (maC A not)[70]? = some .nilFunc ∧ (maC A not)[71]? = some (sv A) ∧ (maC A not)[72]? = some (.bool not) ∧ ∀ i, i < 66 → (maC A not)[3 + i]? = splZero[i]? := by
  refine ⟨rfl, rfl, rfl, rfl, rfl, rfl, rfl, fun i hi => ?_⟩
  unfold maC splZero
  rw [List.getElem?_toArray, List.getElem?_toArray, List.append_assoc, List.getElem?_append_right (by simp)]
  rw [show 3 + i - [Value.int .i64 0, Value.bool false, Value.bool false].length = i from by simp]
  rw [List.getElem?_append_left (by simp; omega)]
theorem maC_eq (A : List UInt8) (not : Bool) : (Try.zeroCells115.setIfInBounds 71 (sv A)).setIfInBounds 72 (.bool not) = maC A not := by
  have e : Try.zeroCells115 = maC [] false := by kernel_rfl
  rw [e]; rfl
theorem ma_rep (A : List UInt8) (not : Bool) (W : World) (hG : GM W) : LR (MaT W.heap.size A not) W.heap.size 68 (W.alloc (.cells ((maC A not).setIfInBounds 69 (evC 68 W.heap.size)) 115)) (fun y => y = W.heap.size) ⟨[], false, false, ()⟩ := by
  obtain ⟨d0, d1, d2, d69, d70, d71, d72, dspl⟩ := maC_cell A not
  rw [← World.setCell_alloc_new]
  have c := fun o => World.cell?_alloc_new W (maC A not) 115 (i := o)
  have z := fun o => World.frozen?_alloc_new W (maC A not) 115 o
  have st : Fr (fun b o => b = W.heap.size ∧ o = 69) (W.alloc (.cells (maC A not) 115)) ((W.alloc (.cells (maC A not) 115)).setCell ⟨W.heap.size, 69, none⟩ (evC 68 W.heap.size)) := (Fr.refl _ _).setCell (fun _ => ⟨rfl, rfl⟩) _
  have hl : W.heap.size < (W.alloc (.cells (maC A not) 115)).heap.size := by simp
  have hG1 : GM (W.alloc (.cells (maC A not) 115)) := hG.no ((Fr.refl No W).alloc _)
  exact ⟨fun _ => False, fun x => by simp, ⟨⟨(st.cell _ 0 hl (fun e => by omega)).trans ((c 0).trans d0), (st.cell _ 1 hl (fun e => by omega)).trans ((c 1).trans d1), (st.cell _ 2 hl (fun e => by omega)).trans ((c 2).trans d2), (st.frozen _ 1 hl (fun e => by omega)).trans (z 1), (st.frozen _ 2 hl (fun e => by omega)).trans (z 2)⟩,
    (spl_new W (maC A not) 115 3 dspl).fr st (fun i hi e => by omega), World.cell?_setCell_same _ _ _ ((c 69).trans d69), (st.cell _ 70 hl (fun e => by omega)).trans ((c 70).trans d70),
    ⟨(st.cell _ 71 hl (fun e => by omega)).trans ((c 71).trans d71), (st.cell _ 72 hl (fun e => by omega)).trans ((c 72).trans d72), hG1.fr st (fun e => by omega), fun _ h => h⟩, fun _ => rfl⟩⟩
set_option maxHeartbeats 4000000 in
set_option maxRecDepth 100000 in
theorem ma_yes (n : Int) (aA aB : Option Addr) (A B : List UInt8) (cA cB : Nat) (w : World) (hA : At w aA (A.map bv)) (hl : A.length ≤ 100000000) (hl2 : B.length ≤ 100000000) (h : fchk 5 5 n A B = 0) (hG : GM w) :
    Calls Try.prog 50 #[.agg #[.int .i64 5, .int .i64 n, .slice aA A.length cA, .slice aB B.length cB]] w (MaNew w A (decide (n = 1))) := by
  have hc := fun (W : World) (hW : Fr No w W) => fcheck_any 5 5 n aA aB A B cA cB W (at_no hA hW) hl hl2
  rw [h] at hc
  clear h
  have HC := Lib.hid hc; clear hc
  obtain ⟨d0, d1, d2, d69, d70, d71, d72, dspl⟩ := maC_cell A (decide (n = 1))
  have y69 : ((Try.zeroCells115.setIfInBounds 71 (sv A)).setIfInBounds 72 (.bool (decide (n = 1))))[69]? = some .nilFunc := by rw [maC_eq]; exact d69
  have REP := Lib.hid (fun (W : World) (hW : Fr No w W) => (show LR (MaT W.heap.size A (decide (n = 1))) W.heap.size 68 (W.alloc (.cells (((Try.zeroCells115.setIfInBounds 71 (sv A)).setIfInBounds 72 (.bool (decide (n = 1)))).setIfInBounds 69 (evC 68 W.heap.size)) 115)) (fun y => y = W.heap.size) ⟨[], false, false, ()⟩ from by
    rw [maC_eq]; exact ma_rep A _ W (hG.no hW)))
  have HCV := Lib.hid (fun (W : World) (hW : Fr No w W) => conv_at (P := Try.prog) (cap := cA) (at_no hA hW) (src := 22) (dst := 9) Try.underlying22 Try.underlying5 Try.underlying9)
  clear d0 d1 d2 d69 d70 d71 d72 dspl hG
  go_enter Try.func50, Try.ntmps50
  go_wp2_with (go_at_call 58; refine (HC.out _ ((Fr.refl No w).alloc _)).mono ?_; rintro e1 w1 ⟨rfl, hfr1⟩; obtain ⟨b1, z1⟩ := box_at hfr1; have b11 := b1 1; have b12 := b1 2; have hcv := HCV.out w1 (((Fr.refl No w).alloc _).trans hfr1))
  go_ret2
  have hs := hfr1.size
  simp at hs
  exact ⟨w1.heap.size, rfl, by omega, REP.out w1 (((Fr.refl No w).alloc _).trans hfr1), (((Fr.refl No w).alloc _).trans hfr1).alloc _⟩
end Go.Proofs.Ytcplbhjpefmliaa
