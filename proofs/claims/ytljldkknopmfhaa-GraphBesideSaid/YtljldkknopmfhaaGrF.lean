/- Graphs: free, so many ports without ducts. -/
import Derived.Test.YtljldkknopmfhaaGrT
namespace Go.Proofs.Ytljldkknopmfhaa
open Go.RowKit

def MulPost (n : Nat) (w : World) (e : Ending) (w' : World) : Prop := e = .returned (.tuple #[.int .u64 0, .int .u64 n]) ∧ w = w'
theorem five {P : Nat → Prop} (h0 : P 0) (h1 : P 1) (h2 : P 2) (h3 : P 3) (h4 : P 4) : ∀ i, i ≤ 4 → P i
  | 0, _ => h0
  | 1, _ => h1
  | 2, _ => h2
  | 3, _ => h3
  | 4, _ => h4
  | n + 5, h => absurd h (by omega)
set_option maxHeartbeats 1000000 in
set_option maxRecDepth 100000 in
theorem mul64_one (w : World) : ∀ n : Nat, n ≤ 4 → Calls Try.prog 144 #[.int .u64 1, .int .u64 n] w (MulPost n w) := by
  apply five <;>
  · go_enter Try.func144, Try.ntmps144
    go_wp2
    go_ret2
    exact ⟨rfl, rfl⟩
set_option maxHeartbeats 1000000 in
set_option maxRecDepth 100000 in
theorem mul_one (w : World) (n : Nat) (hn : n ≤ 4) : Calls Try.prog 137 #[.int .u64 1, .int .u64 n] w (MulPost n w) := by
  have H := Lib.hid (mul64_one w n hn)
  have hi : (n : Int) ≤ 4 := by omega
  go_enter Try.func137, Try.ntmps137
  go_wp2_with (go_at_call 144; refine H.out.mono ?_; rintro e w' ⟨rfl, rfl⟩)
  go_ret2
  exact ⟨rfl, rfl⟩
def FreePost (w : World) (n : Nat) (e : Ending) (w' : World) : Prop :=
  ∃ b, e = .returned (.slice (some ⟨b, 0, none⟩) n n) ∧ w.heap.size ≤ b ∧ w'.heap[b]? = some (.cells ((List.replicate n (-1 : Int)).map iv).toArray 3 (0, 0)) ∧ Fr No w w'
theorem set_row_neg (b n : Nat) : ∀ (m k : Nat), k + m ≤ n → (∀ W : World, W.heap[b]? = some (.cells ((List.replicate k (-1 : Int) ++ List.replicate (n - k) 0).map iv).toArray 3 (0, 0)) →
    (W.setCells b k (List.replicate m (iv (-1)))).heap[b]? = some (.cells ((List.replicate (k + m) (-1 : Int) ++ List.replicate (n - (k + m)) 0).map iv).toArray 3 (0, 0)))
  | 0, k, _ => fun W h => by simpa [World.setCells] using h
  | m + 1, k, hk => fun W h => by
    rw [List.replicate_succ, World.setCells]
    have h1 : (W.setCell ⟨b, k, none⟩ (iv (-1))).heap[b]? = some (.cells ((List.replicate (k + 1) (-1 : Int) ++ List.replicate (n - (k + 1)) 0).map iv).toArray 3 (0, 0)) := by
      rw [setCell_eq_setRow W b k _ _ (0, 0) _ h, setRow_heap W b _ _ _ _ h]
      congr 2
      rw [List.setIfInBounds_toArray, ← List.map_set]
      congr 2
      apply List.ext_getElem
      · simp; omega
      · intro i h1 h2
        rw [List.getElem_set]
        split
        · rename_i e; subst e; simp
        · rename_i e
          simp only [List.getElem_append, List.length_replicate, List.getElem_replicate]
          split <;> split <;> first | rfl | omega
    have := set_row_neg b n m (k + 1) (by omega) _ h1
    rwa [show k + 1 + m = k + (m + 1) from by omega] at this
theorem ints_info : (Try.prog.info? 3).map (fun i => (i.zero, i.size, i.bytes)) = some (some (.int .i64 0), 1, 8) := by kernel_rfl
theorem run_make_ints (W : World) (n : Nat) (hn : n ≤ 4) : (Instr.makeSlice 57 (.int .i64 n) (.int .i64 n)).run Try.prog W = .ok (.slice (some ⟨W.heap.size, 0, none⟩) n n) (W.alloc (.cells (Array.replicate n (iv 0)) 3)) := by
  obtain ⟨i, hi, hz, hs, hb⟩ := info_parts ints_info
  have h := run_make (P := Try.prog) W 57 3 i (.int .i64 0) Try.underlying57 hi hz .i64 .i64 n n (by omega) (by omega) (by rw [hb]; omega) (by omega)
  simp only [Int.toNat_natCast] at h
  have e : madeCells (Value.int .i64 0).cells (n * i.size) = Array.replicate n (iv 0) := by
    rw [hs, Nat.mul_one]
    apply Array.toList_inj.1
    rw [show (Value.int .i64 0).cells = #[.int .i64 0] from rfl, toList_madeCells_one]
    simp [iv]
  rw [h, e]
theorem frSetCells (b : Nat) : ∀ (vs : List Value) (o : Nat) (w : World), Fr (fun x _ => x = b) w (w.setCells b o vs)
  | [], _, _ => Fr.refl _ _
  | v :: r, o, w => ((Fr.refl (fun x _ => x = b) w).setCell (fun _ => rfl) v).trans (frSetCells b r (o + 1) _)
/-- One copy within the row. -/
theorem run_copy_neg (W : World) (b n k a2 o2 c2 m : Nat) (hb : W.heap[b]? = some (.cells ((List.replicate k (-1 : Int) ++ List.replicate (n - k) 0).map iv).toArray 3 (0, 0))) (hm : m = Nat.min c2 (n - k))
    (hsrc : ∀ j, j < m → W.cell? ⟨a2, o2 + j, none⟩ = some (iv (-1))) (cap : Nat) :
    (Builtin.copy_ #[57, 57] 3 #[.slice (some ⟨b, k, none⟩) (n - k) (n - k), .slice (some ⟨a2, o2, none⟩) c2 cap]).run Try.prog W = .ok (.int .i64 m) (W.setCells b k (List.replicate m (iv (-1)))) := by
  have hmn : m ≤ n - k := by rw [hm]; exact Nat.min_le_right _ _
  have h := run_copy_cells (P := Try.prog) W 57 57 3 3 b k (n - k) (n - k) ⟨a2, o2, none⟩ c2 cap (List.replicate m (iv (-1))) Try.underlying57 (by kernel_rfl) (by simpa using hm) (fun j v hj => ?_) (fun j hj => ?_) (fun j _ => frozen_block hb _) (fun v hv => by rw [List.eq_of_mem_replicate hv]; rfl)
  · rw [h]; simp [goInt]
  · have hj' : j < m := by simpa using (List.getElem?_eq_some_iff.1 hj).1
    rw [show (⟨a2, o2, none⟩ : Addr).add j = ⟨a2, o2 + j, none⟩ from by unfold Addr.add; split <;> simp_all, hsrc j hj']
    rw [List.getElem?_replicate, if_pos hj'] at hj
    exact hj
  · have hj' : j < m := by simpa using hj
    rw [cell_block hb]
    have : k + j < ((List.replicate k (-1 : Int) ++ List.replicate (n - k) 0).map iv).length := by simp; omega
    rw [List.getElem?_toArray, List.getElem?_eq_getElem this]; rfl
theorem run_copy_zero (W : World) (b g : Nat) : (Builtin.copy_ #[57, 57] 3 #[.slice (some ⟨b, 0, none⟩) 0 0, .slice (some ⟨g, 0, none⟩) 1 1]).run Try.prog W = .ok (.int .i64 0) W := by
  have h := run_copy_none (P := Try.prog) W 57 57 3 3 (some ⟨b, 0, none⟩) (some ⟨g, 0, none⟩) 0 0 1 1 Try.underlying57 (by kernel_rfl) (by decide)
  rw [h]; simp [goInt]
set_option maxRecDepth 100000 in
theorem repeat_zero (g : Nat) (w : World) : Calls Try.prog 121 #[.slice (some ⟨g, 0, none⟩) 1 1, .int .i64 0] w (FreePost w 0) := by
  have H := Lib.hid (fun W => mul_one W 0 (by omega))
  have hmk := run_make_ints w 0 (by omega)
  have hcp := run_copy_zero (w.alloc (.cells (Array.replicate 0 (iv 0)) 3)) w.heap.size g
  simp only [Array.replicate_zero, Int.natCast_zero] at hmk hcp
  go_enter Try.func121, Try.ntmps121
  go_wp2_with (go_at_call 137; refine (H.out _).mono ?_; rintro e w' ⟨rfl, rfl⟩)
  refine wp_loop_rounds 1 ?_; rw [rounds_succ]; go_wp2
  go_ret
  exact ⟨w.heap.size, rfl, Nat.le_refl _, heap_alloc_new w _, (Fr.refl _ _).alloc _⟩
set_option maxHeartbeats 1000000 in
set_option maxRecDepth 100000 in
theorem repeat_more (g : Nat) (n : Nat) (hn : n ≤ 4) (h0 : 1 ≤ n) (w : World) (hc : w.cell? ⟨g, 0, none⟩ = some (.int .i64 (-1))) : Calls Try.prog 121 #[.slice (some ⟨g, 0, none⟩) 1 1, .int .i64 n] w (FreePost w n) := by
  have H := Lib.hid (fun W => mul_one W n hn)
  obtain ⟨j0, hj, jz0, jz1, jz2⟩ := info_parts ints_info
  have hni : (n : Int) ≤ 4 := by omega
  have h0i : (1 : Int) ≤ n := by omega
  have hmk := run_make_ints w n hn
  have hb1 : (w.alloc (.cells (Array.replicate n (iv 0)) 3)).heap[w.heap.size]? = some (.cells ((List.replicate 0 (-1 : Int) ++ List.replicate (n - 0) 0).map iv).toArray 3 (0, 0)) := by
    rw [heap_alloc_new w]; congr 2; simp
  have hcp := run_copy_neg (w.alloc (.cells (Array.replicate n (iv 0)) 3)) w.heap.size n 0 g 0 1 1 hb1 (by rw [show Nat.min 1 (n - 0) = min 1 (n - 0) from rfl]; omega) (fun j hj => by
    obtain rfl : j = 0 := by omega
    exact cell_alloc hc _) 1
  have hb2 := set_row_neg w.heap.size n 1 0 (by omega) _ hb1
  have hf2 : Fr No w ((w.alloc (.cells (Array.replicate n (iv 0)) 3)).setCells w.heap.size 0 (List.replicate 1 (iv (-1)))) :=
    ((Fr.refl No w).alloc _).step (frSetCells _ _ _ _) (fun b o hb e => by omega)
  simp only [Nat.sub_zero] at hcp
  have HB2 := Lib.hid hb2; have HF2 := Lib.hid hf2
  clear hb1 hb2 hf2 hc
  generalize (w.alloc (.cells (Array.replicate n (iv 0)) 3)).setCells w.heap.size 0 (List.replicate 1 (iv (-1))) = w2 at *
  have hbl := Nat.le_refl w.heap.size
  go_enter Try.func121, Try.ntmps121
  go_wp2_with (go_at_call 137; refine (H.out _).mono ?_; rintro e w' ⟨rfl, rfl⟩)
  go_loopw [8] (fun s wr => ∃ k : Nat, 1 ≤ k ∧ k ≤ n ∧ s = .int .i64 k ∧ Hid (wr.heap[w.heap.size]? = some (.cells ((List.replicate k (-1 : Int) ++ List.replicate (n - k) 0).map iv).toArray 3 (0, 0))) ∧ Hid (Fr No w wr)) (fun s _ => n - (intOf s).toNat)
  case atStart => exact ⟨1, Nat.le_refl _, h0, rfl, HB2, HF2⟩
  case round =>
    obtain ⟨k, hk1, hk, rfl, HW, HF⟩ := hrel
    clear hcp hmk HB2 HF2
    by_cases hlt : k < n
    · have hlti : (k : Int) < n := by omega
      have hs1 : ∀ W : World, (Instr.slice 57 (.slice (some ⟨w.heap.size, 0, none⟩) n n) (some (.int .i64 k)) none none).run Try.prog W = .ok (.slice (some ⟨w.heap.size, k, none⟩) (n - k) (n - k)) W := fun W => by
        have := run_slice_from (P := Try.prog) W 57 3 (some ⟨w.heap.size, 0, none⟩) n n k j0 Try.underlying57 hj hk
        rwa [jz1, show subA (some ⟨w.heap.size, 0, none⟩) n k 1 = some ⟨w.heap.size, k, none⟩ from by simp only [subA, Addr.add, Nat.mul_one]; rw [if_neg (by omega)]; simp; omega] at this
      have hs2 : ∀ W : World, (Instr.slice 57 (.slice (some ⟨w.heap.size, 0, none⟩) n n) none (some (.int .i64 k)) none).run Try.prog W = .ok (.slice (some ⟨w.heap.size, 0, none⟩) k n) W := fun W =>
        run_slice_to W 57 3 _ _ _ k j0 Try.underlying57 hj hk
      have hcp : (Builtin.copy_ #[57, 57] 3 #[.slice (some ⟨w.heap.size, k, none⟩) (n - k) (n - k), .slice (some ⟨w.heap.size, 0, none⟩) k n]).run Try.prog wr.drew = .ok (.int .i64 (Nat.min k (n - k) : Nat)) (wr.drew.setCells w.heap.size k (List.replicate (Nat.min k (n - k)) (iv (-1)))) :=
        run_copy_neg wr.drew w.heap.size n k w.heap.size 0 k _ HW.out rfl (fun j hj => by
          have hjk : j < k := Nat.lt_of_lt_of_le hj (Nat.min_le_left _ _)
          show wr.cell? _ = _
          rw [cell_block HW.out]; simp [List.getElem?_append, hjk]) n
      have hmle : k + Nat.min k (n - k) ≤ n := by have : Nat.min k (n - k) ≤ n - k := Nat.min_le_right _ _; omega
      have hmpos : 1 ≤ Nat.min k (n - k) := by rw [show Nat.min k (n - k) = min k (n - k) from rfl]; omega
      generalize Nat.min k (n - k) = m at *
      have hmi : (k : Int) + m ≤ n := by omega
      go_wp2_with fail
      go_region
      go_wp2
      go_roundw
      case rel => exact ⟨k + m, by omega, hmle, by go_num, Lib.hid (set_row_neg w.heap.size n m k hmle _ HW.out), Lib.hid (HF.out.drew.step (frSetCells _ _ _ _) (fun b o hb e => by omega))⟩
      case measure => simp [intOf]; omega
    · obtain rfl : k = n := by omega
      go_wp2
      go_ret
      exact ⟨_, rfl, Nat.le_refl _, by simpa using HW.out, HF.out⟩
theorem repeat_any (g n : Nat) (hn : n ≤ 4) (w : World) (hc : w.cell? ⟨g, 0, none⟩ = some (.int .i64 (-1))) : Calls Try.prog 121 #[.slice (some ⟨g, 0, none⟩) 1 1, .int .i64 n] w (FreePost w n) := by
  rcases Nat.eq_zero_or_pos n with rfl | h
  · exact repeat_zero g w
  · exact repeat_more g n hn h w hc
set_option maxRecDepth 100000 in
theorem free_any (n : Nat) (hn : n ≤ 4) (w : World) : Calls Try.prog 104 #[.int .i64 n] w (FreePost w n) := by
  have H := Lib.hid (repeat_any w.heap.size n hn (w.alloc (.cells #[.int .i64 (-1)] 3)) ((cell_block (heap_alloc_new w _) 0)))
  have hni : (n : Int) ≤ 4 := by omega
  go_enter Try.func104, Try.ntmps104
  go_wp2_with (go_at_call 121; refine H.out.mono ?_; rintro e w' ⟨b, rfl, hb, hh, hf⟩)
  go_ret
  exact ⟨b, rfl, by simp at hb; omega, hh, ((Fr.refl No w).alloc _).trans hf⟩
end Go.Proofs.Ytljldkknopmfhaa
