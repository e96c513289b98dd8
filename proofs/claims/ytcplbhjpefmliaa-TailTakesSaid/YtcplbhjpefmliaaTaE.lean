/- Tail: New. -/
import Derived.Test.YtcplbhjpefmliaaTaD
namespace Go.Proofs.Ytcplbhjpefmliaa
open Go.RowKit

/-- A new tail's cells. -/
def taC (n : Int) : Array Value := ([Value.int .i64 0, Value.bool false, Value.bool false] ++ (List.replicate 64 (Value.int .u8 0) ++ [Value.int .i64 0, Value.bool false]) ++ [Value.nilFunc, Value.nilFunc, Value.int .i64 n, Value.slice none 0 0]).toArray
def NoNew (w : World) (r : Int) (e : Ending) (w' : World) : Prop := e = .returned (.tuple #[.nilIface, .int .i64 r]) ∧ Fr No w w'
def TaNew (w : World) (n : Nat) (e : Ending) (w' : World) : Prop :=
  ∃ g, e = .returned (.tuple #[.iface 82 (.pointer (some ⟨g, 0, none⟩)), .int .i64 0]) ∧ w.heap.size ≤ g ∧ TaR g n 59 w' (fun y => y = g) ⟨[], false, false, false, []⟩ ∧ Fr No w w'
set_option maxRecDepth 100000 in
theorem ta_no (k n : Int) (aA aB : Option Addr) (A B : List UInt8) (cA cB : Nat) (w : World) (hA : At w aA (A.map bv)) (hl : A.length ≤ 100000000) (hl2 : B.length ≤ 100000000) (h : fchk 4 k n A B ≠ 0) :
    Calls Try.prog 28 #[.agg #[.int .i64 k, .int .i64 n, .slice aA A.length cA, .slice aB B.length cB]] w (NoNew w (fchk 4 k n A B)) := by
  have hc := fun (W : World) (hW : Fr No w W) => fcheck_any 4 k n aA aB A B cA cB W (at_no hA hW) hl hl2
  generalize fchk 4 k n A B = r at *
  have HC := Lib.hid hc; clear hc
  have hrb : (r != 0) = true := by simpa using h
  clear h
  go_enter Try.func28, Try.ntmps28
  go_wp2_with (go_at_call 58; refine (HC.out _ ((Fr.refl No w).alloc _)).mono ?_; rintro e1 w1 ⟨rfl, hfr1⟩)
  go_ret2
  exact ⟨rfl, ((Fr.refl _ _).alloc _).trans hfr1⟩
theorem taC_cell (n : Int) : (taC n)[0]? = some (.int .i64 0) ∧ (taC n)[1]? = some (.bool false) ∧ (taC n)[2]? = some (.bool false) ∧ (taC n)[69]? = some .nilFunc ∧ (taC n)[70]? = some .nilFunc ∧ (taC n)[71]? = some (.int .i64 n) ∧ (taC n)[72]? = some (.slice none 0 0) ∧ ∀ i, i < 66 → (taC n)[3 + i]? = splZero[i]? := by
  refine ⟨rfl, rfl, rfl, rfl, rfl, rfl, rfl, fun i hi => ?_⟩
  unfold taC splZero
  rw [List.getElem?_toArray, List.getElem?_toArray, List.append_assoc, List.getElem?_append_right (by simp)]
  rw [show 3 + i - [Value.int .i64 0, Value.bool false, Value.bool false].length = i from by simp]
  rw [List.getElem?_append_left (by simp; omega)]
theorem taC_eq (n : Int) : Try.zeroCells93.setIfInBounds 71 (.int .i64 n) = taC n := by
  have e : Try.zeroCells93 = taC 0 := by kernel_rfl
  rw [e]; rfl
set_option maxHeartbeats 4000000 in
set_option maxRecDepth 100000 in
theorem ta_yes (n : Nat) (aA aB : Option Addr) (A B : List UInt8) (cA cB : Nat) (w : World) (hA : At w aA (A.map bv)) (hl : A.length ≤ 100000000) (hl2 : B.length ≤ 100000000) (h : fchk 4 4 n A B = 0) :
    Calls Try.prog 28 #[.agg #[.int .i64 4, .int .i64 n, .slice aA A.length cA, .slice aB B.length cB]] w (TaNew w n) := by
  have hc := fun (W : World) (hW : Fr No w W) => fcheck_any 4 4 n aA aB A B cA cB W (at_no hA hW) hl hl2
  rw [h] at hc
  clear h
  have HC := Lib.hid hc; clear hc
  obtain ⟨d0, d1, d2, d69, d70, d71, d72, dspl⟩ := taC_cell n
  have y69 : (Try.zeroCells93.setIfInBounds 71 (.int .i64 n))[69]? = some .nilFunc := by rw [taC_eq]; exact d69
  have y71 : (Try.zeroCells93.setIfInBounds 71 (.int .i64 n))[71]? = some (.int .i64 n) := by rw [taC_eq]; exact d71
  have REP := Lib.hid (fun (W : World) => (show TaR W.heap.size n 59 (W.alloc (.cells ((Try.zeroCells93.setIfInBounds 71 (.int .i64 n)).setIfInBounds 69 (evC 59 W.heap.size)) 93)) (fun y => y = W.heap.size) ⟨[], false, false, false, []⟩ from by
    rw [taC_eq, ← World.setCell_alloc_new]
    have c := fun o => World.cell?_alloc_new W (taC n) 93 (i := o)
    have z := fun o => World.frozen?_alloc_new W (taC n) 93 o
    have st : Fr (fun b o => b = W.heap.size ∧ o = 69) (W.alloc (.cells (taC n) 93)) ((W.alloc (.cells (taC n) 93)).setCell ⟨W.heap.size, 69, none⟩ (evC 59 W.heap.size)) := (Fr.refl _ _).setCell (fun _ => ⟨rfl, rfl⟩) _
    have hl : W.heap.size < (W.alloc (.cells (taC n) 93)).heap.size := by simp
    exact ⟨fun _ => False, fun x => by simp, ⟨(st.cell _ 0 hl (fun e => by omega)).trans ((c 0).trans d0), (st.cell _ 1 hl (fun e => by omega)).trans ((c 1).trans d1), (st.cell _ 2 hl (fun e => by omega)).trans ((c 2).trans d2), (st.frozen _ 1 hl (fun e => by omega)).trans (z 1), (st.frozen _ 2 hl (fun e => by omega)).trans (z 2)⟩,
      (spl_new W (taC n) 93 3 dspl).fr st (fun i hi e => by omega), World.cell?_setCell_same _ _ _ ((c 69).trans d69), (st.cell _ 70 hl (fun e => by omega)).trans ((c 70).trans d70),
      ⟨(st.cell _ 71 hl (fun e => by omega)).trans ((c 71).trans d71), ⟨none, 0, (st.cell _ 72 hl (fun e => by omega)).trans ((c 72).trans d72), OwnSl.nil _ _ _, fun b => by simp [Value.ownBlock]⟩, (st.frozen _ 72 hl (fun e => by omega)).trans (z 72), fun h => h, ⟨Nat.zero_le _, fun x hx => by simp at hx⟩⟩, fun _ _ => rfl, fun _ h => by cases h⟩))
  clear d0 d1 d2 d69 d70 d71 d72 dspl
  go_enter Try.func28, Try.ntmps28
  go_wp2_with (go_at_call 58; refine (HC.out _ ((Fr.refl No w).alloc _)).mono ?_; rintro e1 w1 ⟨rfl, hfr1⟩; obtain ⟨b1, z1⟩ := box_at hfr1; have b10 := b1 1)
  go_ret2
  have hs := hfr1.size
  simp at hs
  refine ⟨w1.heap.size, rfl, by omega, REP.out w1, ?_⟩
  exact (((Fr.refl No w).alloc _).trans hfr1).alloc _
end Go.Proofs.Ytcplbhjpefmliaa
