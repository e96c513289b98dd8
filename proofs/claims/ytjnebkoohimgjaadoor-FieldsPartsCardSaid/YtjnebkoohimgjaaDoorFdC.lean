/- Fields: it is a machine of lines; New. -/
import Derived.Test.YtjnebkoohimgjaaDoorFdA
import Derived.Test.YtjnebkoohimgjaaDoorChk
namespace Go.Proofs.YtjnebkoohimgjaaDoor
open Go.RowKit

/-- Nothing is a machine. -/
theorem mach_none {σ : Type} {M : Mod σ} {m : Meth} {R : World → (Nat → Prop) → σ → Prop} (hm : m.Ok) (h : ∀ w F s, ¬ R w F s) : Mach M m R where
  ok := hm
  fr hr := absurd hr (h _ _ _)
  base hr := absurd hr (h _ _ _)
  lt hr := absurd hr (h _ _ _)
  need3 hr := absurd hr (h _ _ _)
  need hr := absurd hr (h _ _ _)
  held hr := absurd hr (h _ _ _)
  heldB hr := absurd hr (h _ _ _)
  feed hr := absurd hr (h _ _ _)
  fin hr := absurd hr (h _ _ _)
  more hr := absurd hr (h _ _ _)
theorem refuses_none {σ : Type} {M : Mod σ} {m : Meth} {R : World → (Nat → Prop) → σ → Prop} (h : ∀ w F s, ¬ R w F s) : Refuses M m R where
  feed hr := absurd hr (h _ _ _)
  fin hr := absurd hr (h _ _ _)
  more hr := absurd hr (h _ _ _)
set_option maxRecDepth 100000 in
theorem fd_meth (g : Nat) : (linesMeth 72 g 1).Ok where
  mN _ := by kernel_rfl
  mH _ := by kernel_rfl
  mF _ := by kernel_rfl
  mE _ := by kernel_rfl
  mM _ := by kernel_rfl
  cN _ _ := by rfl
  cH _ _ := by rfl
  cF _ _ := by rfl
  cE _ _ := by rfl
  cM _ _ := by rfl
/-- A new machine's cells. -/
def fdC (c : UInt8) (n : Nat) : Array Value := ([Value.int .i64 0, Value.bool false, Value.bool false] ++ (List.replicate 64 (Value.int .u8 0) ++ [Value.int .i64 0, Value.bool false]) ++ [Value.nilFunc, Value.nilFunc, sv [c], Value.int .i64 n]).toArray
def NoNew (w : World) (r : Int) (e : Ending) (w' : World) : Prop := e = .returned (.tuple #[.nilIface, .int .i64 r]) ∧ Fr No w w'
def FdNew (w : World) (c : UInt8) (n : Nat) (e : Ending) (w' : World) : Prop :=
  ∃ g, e = .returned (.tuple #[.iface 72 (.pointer (some ⟨g, 0, none⟩)), .int .i64 0]) ∧ w.heap.size ≤ g ∧ LR (FdT g c n) g 27 w' (fun y => y = g) ⟨[], false, false, ()⟩ ∧ Fr No w w'
set_option maxRecDepth 100000 in
theorem fd_no (k n : Int) (aA aB : Option Addr) (A B : List UInt8) (cA cB : Nat) (w : World) (hA : At w aA (A.map bv)) (hl : A.length ≤ 100000000) (hl2 : B.length ≤ 100000000) (h : fchk 7 k n A B ≠ 0) :
    Calls Tryd.prog 13 #[.agg #[.int .i64 k, .int .i64 n, .slice aA A.length cA, .slice aB B.length cB]] w (NoNew w (fchk 7 k n A B)) := by
  have hc := fun (W : World) (hW : Fr No w W) => fcheck_any 7 k n aA aB A B cA cB W (at_no hA hW) hl hl2
  generalize fchk 7 k n A B = r at *
  have HC := Lib.hid hc; clear hc
  have hrb : (r != 0) = true := by simpa using h
  clear h
  go_enter Tryd.func13, Tryd.ntmps13
  go_wp2_with (go_at_call 26; refine (HC.out _ ((Fr.refl No w).alloc _)).mono ?_; rintro e1 w1 ⟨rfl, hfr1⟩)
  go_ret2
  exact ⟨rfl, ((Fr.refl _ _).alloc _).trans hfr1⟩
theorem fdC_cell (c : UInt8) (n : Nat) : (fdC c n)[0]? = some (.int .i64 0) ∧ (fdC c n)[1]? = some (.bool false) ∧ (fdC c n)[2]? = some (.bool false) ∧ (fdC c n)[69]? = some .nilFunc ∧ (fdC c n)[70]? = some .nilFunc ∧ (fdC c n)[71]? = some (sv [c]) ∧ (fdC c n)[72]? = some (.int .i64 n) ∧ ∀ i, i < 66 → (fdC c n)[3 + i]? = splZero[i]? := by
  refine ⟨rfl, rfl, rfl, rfl, rfl, rfl, rfl, fun i hi => ?_⟩
  unfold fdC splZero
  rw [List.getElem?_toArray, List.getElem?_toArray, List.append_assoc, List.getElem?_append_right (by simp)]
  rw [show 3 + i - [Value.int .i64 0, Value.bool false, Value.bool false].length = i from by simp]
  rw [List.getElem?_append_left (by simp; omega)]
theorem fdC_eq (c : UInt8) (n : Nat) : (Tryd.zeroCells83.setIfInBounds 71 (sv [c])).setIfInBounds 72 (.int .i64 n) = fdC c n := by
  have e : Tryd.zeroCells83 = (fdC 0 0).setIfInBounds 71 (sv []) := by kernel_rfl
  rw [e]; rfl
theorem fd_rep (c : UInt8) (n : Nat) (W : World) (hG : GM W) : LR (FdT W.heap.size c n) W.heap.size 27 (W.alloc (.cells ((fdC c n).setIfInBounds 69 (evC 27 W.heap.size)) 83)) (fun y => y = W.heap.size) ⟨[], false, false, ()⟩ := by
  obtain ⟨d0, d1, d2, d69, d70, d71, d72, dspl⟩ := fdC_cell c n
  rw [← World.setCell_alloc_new]
  have cc := fun o => World.cell?_alloc_new W (fdC c n) 83 (i := o)
  have z := fun o => World.frozen?_alloc_new W (fdC c n) 83 o
  have st : Fr (fun b o => b = W.heap.size ∧ o = 69) (W.alloc (.cells (fdC c n) 83)) ((W.alloc (.cells (fdC c n) 83)).setCell ⟨W.heap.size, 69, none⟩ (evC 27 W.heap.size)) := (Fr.refl _ _).setCell (fun _ => ⟨rfl, rfl⟩) _
  have hl : W.heap.size < (W.alloc (.cells (fdC c n) 83)).heap.size := by simp
  have hG1 : GM (W.alloc (.cells (fdC c n) 83)) := hG.no ((Fr.refl No W).alloc _)
  exact ⟨fun _ => False, fun x => by simp, ⟨⟨(st.cell _ 0 hl (fun e => by omega)).trans ((cc 0).trans d0), (st.cell _ 1 hl (fun e => by omega)).trans ((cc 1).trans d1), (st.cell _ 2 hl (fun e => by omega)).trans ((cc 2).trans d2), (st.frozen _ 1 hl (fun e => by omega)).trans (z 1), (st.frozen _ 2 hl (fun e => by omega)).trans (z 2)⟩,
    (spl_new W (fdC c n) 83 3 dspl).fr st (fun i hi e => by omega), World.cell?_setCell_same _ _ _ ((cc 69).trans d69), (st.cell _ 70 hl (fun e => by omega)).trans ((cc 70).trans d70),
    ⟨(st.cell _ 71 hl (fun e => by omega)).trans ((cc 71).trans d71), (st.cell _ 72 hl (fun e => by omega)).trans ((cc 72).trans d72), hG1.fr st (fun e => by omega), fun _ h => h⟩, fun _ => rfl⟩⟩
set_option maxHeartbeats 4000000 in
set_option maxRecDepth 100000 in
theorem fd_yes (n : Nat) (aA aB : Option Addr) (c : UInt8) (B : List UInt8) (cA cB : Nat) (w : World) (hA : At w aA ([c].map bv)) (hl2 : B.length ≤ 100000000) (h : fchk 7 7 n [c] B = 0) (hG : GM w) :
    Calls Tryd.prog 13 #[.agg #[.int .i64 7, .int .i64 n, .slice aA 1 cA, .slice aB B.length cB]] w (FdNew w c n) := by
  have hc := fun (W : World) (hW : Fr No w W) => fcheck_any 7 7 n aA aB [c] B cA cB W (at_no hA hW) (by simp) hl2
  rw [h] at hc
  simp only [List.length_singleton] at hc
  clear h
  have HC := Lib.hid hc; clear hc
  obtain ⟨d0, d1, d2, d69, d70, d71, d72, dspl⟩ := fdC_cell c n
  have y69 : ((Tryd.zeroCells83.setIfInBounds 71 (sv [c])).setIfInBounds 72 (.int .i64 n))[69]? = some .nilFunc := by rw [fdC_eq]; exact d69
  have REP := Lib.hid (fun (W : World) (hW : Fr No w W) => (show LR (FdT W.heap.size c n) W.heap.size 27 (W.alloc (.cells (((Tryd.zeroCells83.setIfInBounds 71 (sv [c])).setIfInBounds 72 (.int .i64 n)).setIfInBounds 69 (evC 27 W.heap.size)) 83)) (fun y => y = W.heap.size) ⟨[], false, false, ()⟩ from by
    rw [fdC_eq]; exact fd_rep c n W (hG.no hW)))
  have HCV := Lib.hid (fun (W : World) (hW : Fr No w W) => conv_at (P := Tryd.prog) (cap := cA) (l := [c]) (at_no hA hW) (src := 22) (dst := 9) Tryd.underlying22 Tryd.underlying5 Tryd.underlying9)
  clear d0 d1 d2 d69 d70 d71 d72 dspl hG
  go_enter Tryd.func13, Tryd.ntmps13
  go_wp2_with (go_at_call 26; refine (HC.out _ ((Fr.refl No w).alloc _)).mono ?_; rintro e1 w1 ⟨rfl, hfr1⟩; obtain ⟨b1, z1⟩ := box_at hfr1; have b11 := b1 1; have b12 := b1 2; have hcv : (convert 22 9 (.slice aA 1 cA)).run Tryd.prog w1 = .ok (.string ⟨#[c]⟩) w1 := HCV.out w1 (((Fr.refl No w).alloc _).trans hfr1))
  go_ret2
  have hs := hfr1.size
  simp at hs
  exact ⟨w1.heap.size, rfl, by omega, REP.out w1 (((Fr.refl No w).alloc _).trans hfr1), (((Fr.refl No w).alloc _).trans hfr1).alloc _⟩
end Go.Proofs.YtjnebkoohimgjaaDoor
