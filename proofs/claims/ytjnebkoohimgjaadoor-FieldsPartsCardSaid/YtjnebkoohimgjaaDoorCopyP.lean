/- The document's copy of parameters (layer 4). -/
import Derived.Test.YtjnebkoohimgjaaDoorChk
import Derived.Laws.ResultCell
import Derived.Deep.WholeRow
import Derived.Deep.RegionHeld3
import Derived.Deep.DeepCutAuto
import Derived.Test.YtjnebkoohimgjaaDoorParC
namespace Go.Proofs.YtjnebkoohimgjaaDoor
open Go.RowKit

theorem heap_alloc_at (w : World) (o : Obj) (g : Nat) (hg : g = w.heap.size) : (w.alloc o).heap[g]? = some o := by subst hg; exact heap_alloc_new _ _
theorem own_of_heap {w : World} {g : Nat} {e : TypeId} (size : Nat) (h : w.heap[g]? = some (.cells #[] e (0, 0))) : OwnSl w e size (.slice (some ⟨g, 0, none⟩) 0 0) 0 [] :=
  ⟨by simp, .inr ⟨g, 0, 0, _, rfl, h, Nat.le_refl _, by unfold maxLen; omega, by simp, fun i hi => absurd hi (by simp)⟩⟩
def CopyPost (w : World) (k n : Int) (A B : List UInt8) (e : Ending) (w' : World) : Prop :=
  ∃ a c b d, e = .returned (.agg #[.int .i64 k, .int .i64 n, .slice a A.length c, .slice b B.length d]) ∧ At w' a (A.map bv) ∧ At w' b (B.map bv) ∧ Fr No w w'
set_option maxHeartbeats 4000000 in
set_option maxRecDepth 100000 in
theorem copy_any (k n : Int) (aA aB : Option Addr) (A B : List UInt8) (cA cB : Nat) (w : World) (hA : At w aA (A.map bv)) (hB : At w aB (B.map bv)) (hl : A.length ≤ 100000000) (hl2 : B.length ≤ 100000000) :
    Calls Tryd.prog 20 #[.agg #[.int .i64 k, .int .i64 n, .slice aA A.length cA, .slice aB B.length cB]] w (CopyPost w k n A B) := by
  obtain ⟨j0, hj, jz0, jz1, jz2⟩ := info_parts Tryd.info5
  have HA := Lib.hid hA; have HB := Lib.hid hB
  clear hA hB
  have hsz : (Tryd.prog.info? 24).map (·.size) = some 4 := by kernel_rfl
  have HSZ := Lib.hid hsz
  clear hsz
  have HW0 := Lib.hid (((Fr.refl No w).alloc (.cells #[.int .i64 k, .int .i64 n, .slice aA A.length cA, .slice aB B.length cB] 24)).alloc (.cells #[.int .i64 0, .int .i64 0, .slice none 0 0, .slice none 0 0] 24))
  have c0 : ((w.alloc (.cells #[.int .i64 k, .int .i64 n, .slice aA A.length cA, .slice aB B.length cB] 24)).alloc (.cells #[.int .i64 0, .int .i64 0, .slice none 0 0, .slice none 0 0] 24)).cell? ⟨w.heap.size, 0, none⟩ = some (.int .i64 k) := by go_simp
  have c1 : ((w.alloc (.cells #[.int .i64 k, .int .i64 n, .slice aA A.length cA, .slice aB B.length cB] 24)).alloc (.cells #[.int .i64 0, .int .i64 0, .slice none 0 0, .slice none 0 0] 24)).cell? ⟨w.heap.size, 1, none⟩ = some (.int .i64 n) := by go_simp
  have c2 : ((w.alloc (.cells #[.int .i64 k, .int .i64 n, .slice aA A.length cA, .slice aB B.length cB] 24)).alloc (.cells #[.int .i64 0, .int .i64 0, .slice none 0 0, .slice none 0 0] 24)).cell? ⟨w.heap.size, 2, none⟩ = some (.slice aA A.length cA) := by go_simp
  have c3 : ((w.alloc (.cells #[.int .i64 k, .int .i64 n, .slice aA A.length cA, .slice aB B.length cB] 24)).alloc (.cells #[.int .i64 0, .int .i64 0, .slice none 0 0, .slice none 0 0] 24)).cell? ⟨w.heap.size, 3, none⟩ = some (.slice aB B.length cB) := by go_simp
  go_enter Tryd.func20, Tryd.ntmps20
  go_upto_region 1 with fail
  refine wp_region_noPanic ?_
  refine wp_region_held_drew (S := fun W => W.cell? ⟨w.heap.size, 0, none⟩ = some (.int .i64 k) ∧ W.cell? ⟨w.heap.size, 1, none⟩ = some (.int .i64 n) ∧ W.cell? ⟨w.heap.size, 2, none⟩ = some (.slice aA A.length cA) ∧ W.cell? ⟨w.heap.size, 3, none⟩ = some (.slice aB B.length cB)) (by kernel_rfl) ⟨c0, c1, c2, c3⟩ (fun hHeld => ?_)
  refine wpAnyH_take (i := 0) (oi := { dst := some 3, op := Op.fieldAddr 24 (Operand.tmp 1) 0, type := 0, pos := "ref.go:76", after := #[], guard := none }) (v := ?_) rfl (by kernel_rfl) (by kernel_rfl) (by kernel_rfl) (fun _ _ _ h => h) (Or.inl ⟨by rfl, ?_⟩) (by assumption) ?_
  rotate_left
  · intro W hSw
    obtain ⟨s0, s1, s2, s3⟩ := hSw
    go_simp
    try with_reducible rfl
  simp only [Act.put, List.setIfInBounds_toArray, List.set_cons_zero, List.set_cons_succ]
  refine wpAnyH_take (i := 1) (oi := { dst := some 4, op := Op.load 3 (Operand.tmp 3), type := 3, pos := "ref.go:76", after := #[{ on := 0, ground := Ground.data }], guard := none }) (v := ?_) rfl (by kernel_rfl) (by kernel_rfl) (by kernel_rfl) (fun _ _ _ h => h) (Or.inl ⟨by rfl, ?_⟩) (by assumption) ?_
  rotate_left
  · intro W hSw
    obtain ⟨s0, s1, s2, s3⟩ := hSw
    go_simp
    try with_reducible rfl
  simp only [Act.put, List.setIfInBounds_toArray, List.set_cons_zero, List.set_cons_succ]
  refine wpAnyH_take (i := 2) (oi := { dst := some 5, op := Op.fieldAddr 24 (Operand.tmp 1) 1, type := 0, pos := "ref.go:76", after := #[], guard := none }) (v := ?_) rfl (by kernel_rfl) (by kernel_rfl) (by kernel_rfl) (fun _ _ _ h => h) (Or.inl ⟨by rfl, ?_⟩) (by assumption) ?_
  rotate_left
  · intro W hSw
    obtain ⟨s0, s1, s2, s3⟩ := hSw
    go_simp
    try with_reducible rfl
  simp only [Act.put, List.setIfInBounds_toArray, List.set_cons_zero, List.set_cons_succ]
  refine wpAnyH_take (i := 3) (oi := { dst := some 6, op := Op.load 3 (Operand.tmp 5), type := 3, pos := "ref.go:76", after := #[{ on := 2, ground := Ground.data }], guard := none }) (v := ?_) rfl (by kernel_rfl) (by kernel_rfl) (by kernel_rfl) (fun _ _ _ h => h) (Or.inl ⟨by rfl, ?_⟩) (by assumption) ?_
  rotate_left
  · intro W hSw
    obtain ⟨s0, s1, s2, s3⟩ := hSw
    go_simp
    try with_reducible rfl
  simp only [Act.put, List.setIfInBounds_toArray, List.set_cons_zero, List.set_cons_succ]
  refine wpAnyH_take (i := 5) (oi := { dst := some 8, op := Op.fieldAddr 24 (Operand.tmp 1) 2, type := 0, pos := "ref.go:76", after := #[], guard := none }) (v := ?_) rfl (by kernel_rfl) (by kernel_rfl) (by kernel_rfl) (fun _ _ _ h => h) (Or.inl ⟨by rfl, ?_⟩) (by assumption) ?_
  rotate_left
  · intro W hSw
    obtain ⟨s0, s1, s2, s3⟩ := hSw
    go_simp
    try with_reducible rfl
  simp only [Act.put, List.setIfInBounds_toArray, List.set_cons_zero, List.set_cons_succ]
  refine wpAnyH_take (i := 6) (oi := { dst := some 9, op := Op.load 22 (Operand.tmp 8), type := 22, pos := "ref.go:76", after := #[{ on := 5, ground := Ground.data }], guard := none }) (v := ?_) rfl (by kernel_rfl) (by kernel_rfl) (by kernel_rfl) (fun _ _ _ h => h) (Or.inl ⟨by rfl, ?_⟩) (by assumption) ?_
  rotate_left
  · intro W hSw
    obtain ⟨s0, s1, s2, s3⟩ := hSw
    go_simp
    try with_reducible rfl
  simp only [Act.put, List.setIfInBounds_toArray, List.set_cons_zero, List.set_cons_succ]
  refine wpAnyH_take (i := 9) (oi := { dst := some 12, op := Op.fieldAddr 24 (Operand.tmp 1) 3, type := 0, pos := "ref.go:76", after := #[], guard := none }) (v := ?_) rfl (by kernel_rfl) (by kernel_rfl) (by kernel_rfl) (fun _ _ _ h => h) (Or.inl ⟨by rfl, ?_⟩) (by assumption) ?_
  rotate_left
  · intro W hSw
    obtain ⟨s0, s1, s2, s3⟩ := hSw
    go_simp
    try with_reducible rfl
  simp only [Act.put, List.setIfInBounds_toArray, List.set_cons_zero, List.set_cons_succ]
  refine wpAnyH_take (i := 10) (oi := { dst := some 13, op := Op.load 22 (Operand.tmp 12), type := 22, pos := "ref.go:76", after := #[{ on := 9, ground := Ground.data }], guard := none }) (v := ?_) rfl (by kernel_rfl) (by kernel_rfl) (by kernel_rfl) (fun _ _ _ h => h) (Or.inl ⟨by rfl, ?_⟩) (by assumption) ?_
  rotate_left
  · intro W hSw
    obtain ⟨s0, s1, s2, s3⟩ := hSw
    go_simp
    try with_reducible rfl
  simp only [Act.put, List.setIfInBounds_toArray, List.set_cons_zero, List.set_cons_succ]
  refine wpAnyH_ready (rs := [4, 8]) (by kernel_rfl) (by simp) ?_
  refine AllReadyH.cons (o := { dst := some 7, op := Op.buildSlice 22 0 #[], type := 22, pos := "ref.go:76", after := #[], guard := none }) rfl (fun K hK => ?_) (AllReadyH.cons (o := { dst := some 11, op := Op.buildSlice 22 0 #[], type := 22, pos := "ref.go:76", after := #[], guard := none }) rfl (fun K hK => ?_) (AllReadyH.nil))
  · skip
    go_simp
    refine hK.out _ _ ⟨((Fr.refl No ((w.alloc (.cells #[.int .i64 k, .int .i64 n, .slice aA A.length cA, .slice aB B.length cB] 24)).alloc (.cells #[.int .i64 0, .int .i64 0, .slice none 0 0, .slice none 0 0] 24))).drew.alloc (.cells #[] 5)).cell _ 0 (by simp <;> omega) (fun x => x) |>.trans c0, ((Fr.refl No ((w.alloc (.cells #[.int .i64 k, .int .i64 n, .slice aA A.length cA, .slice aB B.length cB] 24)).alloc (.cells #[.int .i64 0, .int .i64 0, .slice none 0 0, .slice none 0 0] 24))).drew.alloc (.cells #[] 5)).cell _ 1 (by simp <;> omega) (fun x => x) |>.trans c1, ((Fr.refl No ((w.alloc (.cells #[.int .i64 k, .int .i64 n, .slice aA A.length cA, .slice aB B.length cB] 24)).alloc (.cells #[.int .i64 0, .int .i64 0, .slice none 0 0, .slice none 0 0] 24))).drew.alloc (.cells #[] 5)).cell _ 2 (by simp <;> omega) (fun x => x) |>.trans c2, ((Fr.refl No ((w.alloc (.cells #[.int .i64 k, .int .i64 n, .slice aA A.length cA, .slice aB B.length cB] 24)).alloc (.cells #[.int .i64 0, .int .i64 0, .slice none 0 0, .slice none 0 0] 24))).drew.alloc (.cells #[] 5)).cell _ 3 (by simp <;> omega) (fun x => x) |>.trans c3⟩ (fun hHeld => ?_)
    clear hK K
    refine wpAnyH_ready (rs := [7, 8]) (by kernel_rfl) (by simp) ?_
    refine AllReadyH.cons (o := { dst := some 10, op := Op.call { callee := Callee.builtin Builtin.append, args := #[Operand.tmp 7, Operand.tmp 9], argTypes := #[22, 22] }, type := 22, pos := "ref.go:76", after := #[{ on := 4, ground := Ground.data }, { on := 6, ground := Ground.data }], guard := none }) rfl (fun K hK => ?_) (AllReadyH.cons (o := { dst := some 11, op := Op.buildSlice 22 0 #[], type := 22, pos := "ref.go:76", after := #[], guard := none }) rfl (fun K hK => ?_) (AllReadyH.nil))
    · skip
      refine step_append_sl rfl (.tmp 7) (.tmp 9) 22 22 rfl 5 j0 (.int .u8 0) 1 1 Tryd.underlying22 hj jz0 jz1 jz2 rfl (by decide) _ 0 [] rfl (own_of_heap 1 (heap_alloc_at _ _ _ (by simp))) _ A.length (A.map bv) rfl (src_slice Tryd.underlying22 (by simp) (at_no HA.out (Fr.trans HW0.out ((Fr.refl No ((w.alloc (.cells #[.int .i64 k, .int .i64 n, .slice aA A.length cA, .slice aB B.length cB] 24)).alloc (.cells #[.int .i64 0, .int .i64 0, .slice none 0 0, .slice none 0 0] 24))).drew.alloc (.cells #[] 5)))) (by simp [Value.oneCell'])) (by omega) (by omega) ?_
      intro vA wA hownA hfrA hblkA
      rw [Nat.zero_add, List.nil_append] at hownA
      have FA : Fr No ((w.alloc (.cells #[.int .i64 k, .int .i64 n, .slice aA A.length cA, .slice aB B.length cB] 24)).alloc (.cells #[.int .i64 0, .int .i64 0, .slice none 0 0, .slice none 0 0] 24)) wA := Fr.step ((Fr.refl No ((w.alloc (.cells #[.int .i64 k, .int .i64 n, .slice aA A.length cA, .slice aB B.length cB] 24)).alloc (.cells #[.int .i64 0, .int .i64 0, .slice none 0 0, .slice none 0 0] 24))).drew.alloc (.cells #[] 5)) hfrA (fun x o hx h => by have hx' : x < w.heap.size + 1 + 1 := (by simpa using hx); have h' : some (w.heap.size + 1 + 1) = some x := h; injection h' with h'; omega)
      obtain ⟨a1, c1', hv1, hat1, _⟩ := hownA.at
      subst hv1
      have hn1 : ∀ g off, a1 = some ⟨g, off, none⟩ → g ≠ w.heap.size + 1 := fun g off e => by
        rcases hblkA with h | h
        · rw [e] at h; have h' : some g = some (w.heap.size + 1 + 1) := h; injection h' with h'; omega
        · rw [e] at h; have h' : some g = some _ := h; injection h' with h'; (try simp at h'); omega
      refine hK.out _ _ ⟨FA.cell _ 0 (by simp <;> omega) (fun x => x) |>.trans c0, FA.cell _ 1 (by simp <;> omega) (fun x => x) |>.trans c1, FA.cell _ 2 (by simp <;> omega) (fun x => x) |>.trans c2, FA.cell _ 3 (by simp <;> omega) (fun x => x) |>.trans c3⟩ (fun hHeld => ?_)
      clear hK K
      refine wpAnyH_ready (rs := [8]) (by kernel_rfl) (by simp) ?_
      refine AllReadyH.cons (o := { dst := some 11, op := Op.buildSlice 22 0 #[], type := 22, pos := "ref.go:76", after := #[], guard := none }) rfl (fun K hK => ?_) (AllReadyH.nil)
      go_simp
      refine hK.out _ _ ⟨(FA.alloc (.cells #[] 5)).cell _ 0 (by simp <;> omega) (fun x => x) |>.trans c0, (FA.alloc (.cells #[] 5)).cell _ 1 (by simp <;> omega) (fun x => x) |>.trans c1, (FA.alloc (.cells #[] 5)).cell _ 2 (by simp <;> omega) (fun x => x) |>.trans c2, (FA.alloc (.cells #[] 5)).cell _ 3 (by simp <;> omega) (fun x => x) |>.trans c3⟩ (fun hHeld => ?_)
      clear hK K
      refine wpAnyH_ready (rs := [11]) (by kernel_rfl) (by simp) ?_
      refine AllReadyH.cons (o := { dst := some 14, op := Op.call { callee := Callee.builtin Builtin.append, args := #[Operand.tmp 11, Operand.tmp 13], argTypes := #[22, 22] }, type := 22, pos := "ref.go:76", after := #[{ on := 8, ground := Ground.data }, { on := 10, ground := Ground.data }, { on := 7, ground := Ground.chain }], guard := none }) rfl (fun K hK => ?_) (AllReadyH.nil)
      refine step_append_sl rfl (.tmp 11) (.tmp 13) 22 22 rfl 5 j0 (.int .u8 0) 1 1 Tryd.underlying22 hj jz0 jz1 jz2 rfl (by decide) _ 0 [] rfl (own_of_heap 1 (heap_alloc_at _ _ _ (by simp))) _ B.length (B.map bv) rfl (src_slice Tryd.underlying22 (by simp) (at_no HB.out (Fr.trans HW0.out (FA.alloc (.cells #[] 5)))) (by simp [Value.oneCell'])) (by omega) (by omega) ?_
      intro vB wB hownB hfrB hblkB
      rw [Nat.zero_add, List.nil_append] at hownB
      have FB : Fr No ((w.alloc (.cells #[.int .i64 k, .int .i64 n, .slice aA A.length cA, .slice aB B.length cB] 24)).alloc (.cells #[.int .i64 0, .int .i64 0, .slice none 0 0, .slice none 0 0] 24)) wB := Fr.step (FA.alloc (.cells #[] 5)) hfrB (fun x o hx h => by have hx' : x < w.heap.size + 1 + 1 := (by simpa using hx); have h' : some wA.heap.size = some x := h; injection h' with h'; have := FA.size; simp at this; omega)
      have hat1 := hat1.fr (((Fr.refl (Blk (.slice (some ⟨wA.heap.size, 0, none⟩) 0 0)) wA).alloc (.cells #[] 5)).trans hfrB) (fun g off e hl i _ h => by have h' : some wA.heap.size = some g := h; injection h' with h'; omega)
      have hn2' : ∀ x, vB.ownBlock = some x → x ≠ w.heap.size + 1 := fun x e => by
        have hsA := FA.size; simp at hsA
        rcases hblkB with h | h
        · rw [h] at e; have h' : some wA.heap.size = some x := e; injection h' with h'; omega
        · rw [h] at e; have h' : some _ = some x := e; injection h' with h'; (try simp at h'); omega
      have hn2 : ∀ (a : Option Addr) (c : Nat), vB = .slice a B.length c → ∀ g off, a = some ⟨g, off, none⟩ → g ≠ w.heap.size + 1 := fun a c e g off e2 => hn2' g (by rw [e, e2]; rfl)
      refine hK.out _ _ ⟨FB.cell _ 0 (by simp <;> omega) (fun x => x) |>.trans c0, FB.cell _ 1 (by simp <;> omega) (fun x => x) |>.trans c1, FB.cell _ 2 (by simp <;> omega) (fun x => x) |>.trans c2, FB.cell _ 3 (by simp <;> omega) (fun x => x) |>.trans c3⟩ (fun hHeld => ?_)
      clear hK K
      obtain ⟨a2, c2', hv2, hat2, _⟩ := hownB.at
      subst hv2
      refine wpAnyH_take (i := 12) (oi := { dst := some 15, op := Op.build 24 #[(0, Operand.tmp 4), (1, Operand.tmp 6), (2, Operand.tmp 10), (3, Operand.tmp 14)], type := 24, pos := "ref.go:76", after := #[{ on := 1, ground := Ground.data }, { on := 3, ground := Ground.data }, { on := 7, ground := Ground.data }, { on := 11, ground := Ground.data }], guard := none }) (v := ?_) rfl (by kernel_rfl) (by kernel_rfl) (by kernel_rfl) (fun _ _ _ h => h) (Or.inl ⟨by rfl, ?_⟩) (by assumption) ?_
      rotate_left
      · intro W hSw
        obtain ⟨s0, s1, s2, s3⟩ := hSw
        go_simp
        try with_reducible rfl
      simp only [Act.put, List.setIfInBounds_toArray, List.set_cons_zero, List.set_cons_succ]
      refine wpAnyH_ready (rs := [13]) (by kernel_rfl) (by simp) ?_
      refine AllReadyH.cons (o := { dst := none, op := Op.store 24 (Operand.tmp 2) (Operand.tmp 15), type := 0, pos := "ref.go:76", after := #[{ on := 12, ground := Ground.data }, { on := 11, ground := Ground.chain }, { on := 0, ground := Ground.phase }, { on := 1, ground := Ground.phase }, { on := 2, ground := Ground.phase }, { on := 3, ground := Ground.phase }, { on := 4, ground := Ground.phase }, { on := 5, ground := Ground.phase }, { on := 6, ground := Ground.phase }, { on := 7, ground := Ground.phase }, { on := 8, ground := Ground.phase }, { on := 9, ground := Ground.phase }, { on := 10, ground := Ground.phase }, { on := 11, ground := Ground.phase }, { on := 12, ground := Ground.phase }], guard := none }) rfl (fun K hK => ?_) (AllReadyH.nil)
      rw [if_pos (by rfl)]
      have hres : wB.heap[w.heap.size + 1]? = some (.cells #[.int .i64 0, .int .i64 0, .slice none 0 0, .slice none 0 0] 24) := (FB.block _ (by simp) (fun _ x => x)).trans (heap_alloc_at _ _ _ (by simp))
      refine wp_store_row 24 (.tmp 2) (.tmp 15) rfl (w.heap.size + 1) #[.int .i64 k, .int .i64 n, .slice a1 A.length c1', .slice a2 B.length c2'] rfl rfl 24 #[.int .i64 0, .int .i64 0, .slice none 0 0, .slice none 0 0] hres HSZ.out rfl (by simp [Value.oneCell']) ?_
      have fset : Fr (fun x _ => x = w.heap.size + 1) wB (wB.setRow (w.heap.size + 1) #[.int .i64 k, .int .i64 n, .slice a1 A.length c1', .slice a2 B.length c2']) := (Fr.refl _ _).setRow _ _ (fun _ _ => rfl)
      have hsB := FB.size
      simp at hsB
      refine hK.out _ _ ⟨(fset.cell w.heap.size 0 (by omega) (fun x => by omega)).trans (FB.cell _ 0 (by simp <;> omega) (fun x => x) |>.trans c0), (fset.cell w.heap.size 1 (by omega) (fun x => by omega)).trans (FB.cell _ 1 (by simp <;> omega) (fun x => x) |>.trans c1), (fset.cell w.heap.size 2 (by omega) (fun x => by omega)).trans (FB.cell _ 2 (by simp <;> omega) (fun x => x) |>.trans c2), (fset.cell w.heap.size 3 (by omega) (fun x => by omega)).trans (FB.cell _ 3 (by simp <;> omega) (fun x => x) |>.trans c3)⟩ (fun hHeld => ?_)
      clear hK K
      refine wpAnyH_done (by kernel_rfl) ?_ _
      refine NoPanic.normal ?_
      go_wp2_with fail
      refine bodyPost_ret (v := .agg #[.int .i64 k, .int .i64 n, .slice a1 A.length c1', .slice a2 B.length c2']) (results_cell_row (p := 2) (ty := 24) (by kernel_rfl) _ _ (w.heap.size + 1) 24 #[.int .i64 k, .int .i64 n, .slice a1 A.length c1', .slice a2 B.length c2'] (0, 0) _ rfl (setRow_heap _ (w.heap.size + 1) _ _ 24 _ hres) Tryd.underlying24 rfl HSZ.out) rfl ⟨a1, c1', a2, c2', rfl, hat1.fr fset (fun g off e _ i _ h => hn1 g off e h), hat2.fr fset (fun g off e _ i _ h => hn2 _ _ rfl g off e h), ?_⟩
      exact (Fr.trans HW0.out FB).setRow _ _ (fun o h => by omega)
    · skip
      go_simp
      refine hK.out _ _ ⟨(((Fr.refl No ((w.alloc (.cells #[.int .i64 k, .int .i64 n, .slice aA A.length cA, .slice aB B.length cB] 24)).alloc (.cells #[.int .i64 0, .int .i64 0, .slice none 0 0, .slice none 0 0] 24))).drew.alloc (.cells #[] 5)).alloc (.cells #[] 5)).cell _ 0 (by simp <;> omega) (fun x => x) |>.trans c0, (((Fr.refl No ((w.alloc (.cells #[.int .i64 k, .int .i64 n, .slice aA A.length cA, .slice aB B.length cB] 24)).alloc (.cells #[.int .i64 0, .int .i64 0, .slice none 0 0, .slice none 0 0] 24))).drew.alloc (.cells #[] 5)).alloc (.cells #[] 5)).cell _ 1 (by simp <;> omega) (fun x => x) |>.trans c1, (((Fr.refl No ((w.alloc (.cells #[.int .i64 k, .int .i64 n, .slice aA A.length cA, .slice aB B.length cB] 24)).alloc (.cells #[.int .i64 0, .int .i64 0, .slice none 0 0, .slice none 0 0] 24))).drew.alloc (.cells #[] 5)).alloc (.cells #[] 5)).cell _ 2 (by simp <;> omega) (fun x => x) |>.trans c2, (((Fr.refl No ((w.alloc (.cells #[.int .i64 k, .int .i64 n, .slice aA A.length cA, .slice aB B.length cB] 24)).alloc (.cells #[.int .i64 0, .int .i64 0, .slice none 0 0, .slice none 0 0] 24))).drew.alloc (.cells #[] 5)).alloc (.cells #[] 5)).cell _ 3 (by simp <;> omega) (fun x => x) |>.trans c3⟩ (fun hHeld => ?_)
      clear hK K
      refine wpAnyH_ready (rs := [7]) (by kernel_rfl) (by simp) ?_
      refine AllReadyH.cons (o := { dst := some 10, op := Op.call { callee := Callee.builtin Builtin.append, args := #[Operand.tmp 7, Operand.tmp 9], argTypes := #[22, 22] }, type := 22, pos := "ref.go:76", after := #[{ on := 4, ground := Ground.data }, { on := 6, ground := Ground.data }], guard := none }) rfl (fun K hK => ?_) (AllReadyH.nil)
      refine step_append_sl rfl (.tmp 7) (.tmp 9) 22 22 rfl 5 j0 (.int .u8 0) 1 1 Tryd.underlying22 hj jz0 jz1 jz2 rfl (by decide) _ 0 [] rfl (own_of_heap 1 (by first | (rw [heap_alloc_old (h := by simp)]; exact heap_alloc_at _ _ _ (by simp)) | (rw [heap_drew, heap_alloc_old (h := by simp)]; exact heap_alloc_at _ _ _ (by simp)))) _ A.length (A.map bv) rfl (src_slice Tryd.underlying22 (by simp) (at_no HA.out (Fr.trans HW0.out (((Fr.refl No ((w.alloc (.cells #[.int .i64 k, .int .i64 n, .slice aA A.length cA, .slice aB B.length cB] 24)).alloc (.cells #[.int .i64 0, .int .i64 0, .slice none 0 0, .slice none 0 0] 24))).drew.alloc (.cells #[] 5)).alloc (.cells #[] 5)))) (by simp [Value.oneCell'])) (by omega) (by omega) ?_
      intro vA wA hownA hfrA hblkA
      rw [Nat.zero_add, List.nil_append] at hownA
      have FA : Fr No ((w.alloc (.cells #[.int .i64 k, .int .i64 n, .slice aA A.length cA, .slice aB B.length cB] 24)).alloc (.cells #[.int .i64 0, .int .i64 0, .slice none 0 0, .slice none 0 0] 24)) wA := Fr.step (((Fr.refl No ((w.alloc (.cells #[.int .i64 k, .int .i64 n, .slice aA A.length cA, .slice aB B.length cB] 24)).alloc (.cells #[.int .i64 0, .int .i64 0, .slice none 0 0, .slice none 0 0] 24))).drew.alloc (.cells #[] 5)).alloc (.cells #[] 5)) hfrA (fun x o hx h => by have hx' : x < w.heap.size + 1 + 1 := (by simpa using hx); have h' : some (w.heap.size + 1 + 1) = some x := h; injection h' with h'; omega)
      have h11 : wA.heap[(w.heap.size + 1 + 1 + 1)]? = some (.cells #[] 5 (0, 0)) := (hfrA.block (w.heap.size + 1 + 1 + 1) (by simp) (fun _ h => by have h' : some (w.heap.size + 1 + 1) = some (w.heap.size + 1 + 1 + 1) := h; injection h' with h'; omega)).trans (heap_alloc_at _ _ _ (by simp))
      have ha11 : ∀ x, vA.ownBlock = some x → x ≠ (w.heap.size + 1 + 1 + 1) := fun x e => by
        rcases hblkA with h | h
        · rw [h] at e; have h' : some (w.heap.size + 1 + 1) = some x := e; injection h' with h'; omega
        · rw [h] at e; have h' : some _ = some x := e; injection h' with h'; (try simp at h'); omega
      obtain ⟨a1, c1', hv1, hat1, _⟩ := hownA.at
      subst hv1
      have hn1 : ∀ g off, a1 = some ⟨g, off, none⟩ → g ≠ w.heap.size + 1 := fun g off e => by
        rcases hblkA with h | h
        · rw [e] at h; have h' : some g = some (w.heap.size + 1 + 1) := h; injection h' with h'; omega
        · rw [e] at h; have h' : some g = some _ := h; injection h' with h'; (try simp at h'); omega
      refine hK.out _ _ ⟨FA.cell _ 0 (by simp <;> omega) (fun x => x) |>.trans c0, FA.cell _ 1 (by simp <;> omega) (fun x => x) |>.trans c1, FA.cell _ 2 (by simp <;> omega) (fun x => x) |>.trans c2, FA.cell _ 3 (by simp <;> omega) (fun x => x) |>.trans c3⟩ (fun hHeld => ?_)
      clear hK K
      refine wpAnyH_ready (rs := [11]) (by kernel_rfl) (by simp) ?_
      refine AllReadyH.cons (o := { dst := some 14, op := Op.call { callee := Callee.builtin Builtin.append, args := #[Operand.tmp 11, Operand.tmp 13], argTypes := #[22, 22] }, type := 22, pos := "ref.go:76", after := #[{ on := 8, ground := Ground.data }, { on := 10, ground := Ground.data }, { on := 7, ground := Ground.chain }], guard := none }) rfl (fun K hK => ?_) (AllReadyH.nil)
      refine step_append_sl rfl (.tmp 11) (.tmp 13) 22 22 rfl 5 j0 (.int .u8 0) 1 1 Tryd.underlying22 hj jz0 jz1 jz2 rfl (by decide) _ 0 [] rfl (own_of_heap 1 h11) _ B.length (B.map bv) rfl (src_slice Tryd.underlying22 (by simp) (at_no HB.out (Fr.trans HW0.out FA)) (by simp [Value.oneCell'])) (by omega) (by omega) ?_
      intro vB wB hownB hfrB hblkB
      rw [Nat.zero_add, List.nil_append] at hownB
      have FB : Fr No ((w.alloc (.cells #[.int .i64 k, .int .i64 n, .slice aA A.length cA, .slice aB B.length cB] 24)).alloc (.cells #[.int .i64 0, .int .i64 0, .slice none 0 0, .slice none 0 0] 24)) wB := Fr.step FA hfrB (fun x o hx h => by have hx' : x < w.heap.size + 1 + 1 := (by simpa using hx); have h' : some (w.heap.size + 1 + 1 + 1) = some x := h; injection h' with h'; have := FA.size; simp at this; omega)
      have hat1 := hat1.fr hfrB (fun g off e hl i _ h => by have h' : some (w.heap.size + 1 + 1 + 1) = some g := h; injection h' with h'; exact ha11 g (by rw [e]; rfl) h'.symm)
      have hn2' : ∀ x, vB.ownBlock = some x → x ≠ w.heap.size + 1 := fun x e => by
        have hsA := FA.size; simp at hsA
        rcases hblkB with h | h
        · rw [h] at e; have h' : some (w.heap.size + 1 + 1 + 1) = some x := e; injection h' with h'; omega
        · rw [h] at e; have h' : some _ = some x := e; injection h' with h'; (try simp at h'); omega
      have hn2 : ∀ (a : Option Addr) (c : Nat), vB = .slice a B.length c → ∀ g off, a = some ⟨g, off, none⟩ → g ≠ w.heap.size + 1 := fun a c e g off e2 => hn2' g (by rw [e, e2]; rfl)
      refine hK.out _ _ ⟨FB.cell _ 0 (by simp <;> omega) (fun x => x) |>.trans c0, FB.cell _ 1 (by simp <;> omega) (fun x => x) |>.trans c1, FB.cell _ 2 (by simp <;> omega) (fun x => x) |>.trans c2, FB.cell _ 3 (by simp <;> omega) (fun x => x) |>.trans c3⟩ (fun hHeld => ?_)
      clear hK K
      obtain ⟨a2, c2', hv2, hat2, _⟩ := hownB.at
      subst hv2
      refine wpAnyH_take (i := 12) (oi := { dst := some 15, op := Op.build 24 #[(0, Operand.tmp 4), (1, Operand.tmp 6), (2, Operand.tmp 10), (3, Operand.tmp 14)], type := 24, pos := "ref.go:76", after := #[{ on := 1, ground := Ground.data }, { on := 3, ground := Ground.data }, { on := 7, ground := Ground.data }, { on := 11, ground := Ground.data }], guard := none }) (v := ?_) rfl (by kernel_rfl) (by kernel_rfl) (by kernel_rfl) (fun _ _ _ h => h) (Or.inl ⟨by rfl, ?_⟩) (by assumption) ?_
      rotate_left
      · intro W hSw
        obtain ⟨s0, s1, s2, s3⟩ := hSw
        go_simp
        try with_reducible rfl
      simp only [Act.put, List.setIfInBounds_toArray, List.set_cons_zero, List.set_cons_succ]
      refine wpAnyH_ready (rs := [13]) (by kernel_rfl) (by simp) ?_
      refine AllReadyH.cons (o := { dst := none, op := Op.store 24 (Operand.tmp 2) (Operand.tmp 15), type := 0, pos := "ref.go:76", after := #[{ on := 12, ground := Ground.data }, { on := 11, ground := Ground.chain }, { on := 0, ground := Ground.phase }, { on := 1, ground := Ground.phase }, { on := 2, ground := Ground.phase }, { on := 3, ground := Ground.phase }, { on := 4, ground := Ground.phase }, { on := 5, ground := Ground.phase }, { on := 6, ground := Ground.phase }, { on := 7, ground := Ground.phase }, { on := 8, ground := Ground.phase }, { on := 9, ground := Ground.phase }, { on := 10, ground := Ground.phase }, { on := 11, ground := Ground.phase }, { on := 12, ground := Ground.phase }], guard := none }) rfl (fun K hK => ?_) (AllReadyH.nil)
      rw [if_pos (by rfl)]
      have hres : wB.heap[w.heap.size + 1]? = some (.cells #[.int .i64 0, .int .i64 0, .slice none 0 0, .slice none 0 0] 24) := (FB.block _ (by simp) (fun _ x => x)).trans (heap_alloc_at _ _ _ (by simp))
      refine wp_store_row 24 (.tmp 2) (.tmp 15) rfl (w.heap.size + 1) #[.int .i64 k, .int .i64 n, .slice a1 A.length c1', .slice a2 B.length c2'] rfl rfl 24 #[.int .i64 0, .int .i64 0, .slice none 0 0, .slice none 0 0] hres HSZ.out rfl (by simp [Value.oneCell']) ?_
      have fset : Fr (fun x _ => x = w.heap.size + 1) wB (wB.setRow (w.heap.size + 1) #[.int .i64 k, .int .i64 n, .slice a1 A.length c1', .slice a2 B.length c2']) := (Fr.refl _ _).setRow _ _ (fun _ _ => rfl)
      have hsB := FB.size
      simp at hsB
      refine hK.out _ _ ⟨(fset.cell w.heap.size 0 (by omega) (fun x => by omega)).trans (FB.cell _ 0 (by simp <;> omega) (fun x => x) |>.trans c0), (fset.cell w.heap.size 1 (by omega) (fun x => by omega)).trans (FB.cell _ 1 (by simp <;> omega) (fun x => x) |>.trans c1), (fset.cell w.heap.size 2 (by omega) (fun x => by omega)).trans (FB.cell _ 2 (by simp <;> omega) (fun x => x) |>.trans c2), (fset.cell w.heap.size 3 (by omega) (fun x => by omega)).trans (FB.cell _ 3 (by simp <;> omega) (fun x => x) |>.trans c3)⟩ (fun hHeld => ?_)
      clear hK K
      refine wpAnyH_done (by kernel_rfl) ?_ _
      refine NoPanic.normal ?_
      go_wp2_with fail
      refine bodyPost_ret (v := .agg #[.int .i64 k, .int .i64 n, .slice a1 A.length c1', .slice a2 B.length c2']) (results_cell_row (p := 2) (ty := 24) (by kernel_rfl) _ _ (w.heap.size + 1) 24 #[.int .i64 k, .int .i64 n, .slice a1 A.length c1', .slice a2 B.length c2'] (0, 0) _ rfl (setRow_heap _ (w.heap.size + 1) _ _ 24 _ hres) Tryd.underlying24 rfl HSZ.out) rfl ⟨a1, c1', a2, c2', rfl, hat1.fr fset (fun g off e _ i _ h => hn1 g off e h), hat2.fr fset (fun g off e _ i _ h => hn2 _ _ rfl g off e h), ?_⟩
      exact (Fr.trans HW0.out FB).setRow _ _ (fun o h => by omega)
  · skip
    go_simp
    refine hK.out _ _ ⟨((Fr.refl No ((w.alloc (.cells #[.int .i64 k, .int .i64 n, .slice aA A.length cA, .slice aB B.length cB] 24)).alloc (.cells #[.int .i64 0, .int .i64 0, .slice none 0 0, .slice none 0 0] 24))).drew.alloc (.cells #[] 5)).cell _ 0 (by simp <;> omega) (fun x => x) |>.trans c0, ((Fr.refl No ((w.alloc (.cells #[.int .i64 k, .int .i64 n, .slice aA A.length cA, .slice aB B.length cB] 24)).alloc (.cells #[.int .i64 0, .int .i64 0, .slice none 0 0, .slice none 0 0] 24))).drew.alloc (.cells #[] 5)).cell _ 1 (by simp <;> omega) (fun x => x) |>.trans c1, ((Fr.refl No ((w.alloc (.cells #[.int .i64 k, .int .i64 n, .slice aA A.length cA, .slice aB B.length cB] 24)).alloc (.cells #[.int .i64 0, .int .i64 0, .slice none 0 0, .slice none 0 0] 24))).drew.alloc (.cells #[] 5)).cell _ 2 (by simp <;> omega) (fun x => x) |>.trans c2, ((Fr.refl No ((w.alloc (.cells #[.int .i64 k, .int .i64 n, .slice aA A.length cA, .slice aB B.length cB] 24)).alloc (.cells #[.int .i64 0, .int .i64 0, .slice none 0 0, .slice none 0 0] 24))).drew.alloc (.cells #[] 5)).cell _ 3 (by simp <;> omega) (fun x => x) |>.trans c3⟩ (fun hHeld => ?_)
    clear hK K
    refine wpAnyH_ready (rs := [4]) (by kernel_rfl) (by simp) ?_
    refine AllReadyH.cons (o := { dst := some 7, op := Op.buildSlice 22 0 #[], type := 22, pos := "ref.go:76", after := #[], guard := none }) rfl (fun K hK => ?_) (AllReadyH.nil)
    go_simp
    refine hK.out _ _ ⟨(((Fr.refl No ((w.alloc (.cells #[.int .i64 k, .int .i64 n, .slice aA A.length cA, .slice aB B.length cB] 24)).alloc (.cells #[.int .i64 0, .int .i64 0, .slice none 0 0, .slice none 0 0] 24))).drew.alloc (.cells #[] 5)).alloc (.cells #[] 5)).cell _ 0 (by simp <;> omega) (fun x => x) |>.trans c0, (((Fr.refl No ((w.alloc (.cells #[.int .i64 k, .int .i64 n, .slice aA A.length cA, .slice aB B.length cB] 24)).alloc (.cells #[.int .i64 0, .int .i64 0, .slice none 0 0, .slice none 0 0] 24))).drew.alloc (.cells #[] 5)).alloc (.cells #[] 5)).cell _ 1 (by simp <;> omega) (fun x => x) |>.trans c1, (((Fr.refl No ((w.alloc (.cells #[.int .i64 k, .int .i64 n, .slice aA A.length cA, .slice aB B.length cB] 24)).alloc (.cells #[.int .i64 0, .int .i64 0, .slice none 0 0, .slice none 0 0] 24))).drew.alloc (.cells #[] 5)).alloc (.cells #[] 5)).cell _ 2 (by simp <;> omega) (fun x => x) |>.trans c2, (((Fr.refl No ((w.alloc (.cells #[.int .i64 k, .int .i64 n, .slice aA A.length cA, .slice aB B.length cB] 24)).alloc (.cells #[.int .i64 0, .int .i64 0, .slice none 0 0, .slice none 0 0] 24))).drew.alloc (.cells #[] 5)).alloc (.cells #[] 5)).cell _ 3 (by simp <;> omega) (fun x => x) |>.trans c3⟩ (fun hHeld => ?_)
    clear hK K
    refine wpAnyH_ready (rs := [7]) (by kernel_rfl) (by simp) ?_
    refine AllReadyH.cons (o := { dst := some 10, op := Op.call { callee := Callee.builtin Builtin.append, args := #[Operand.tmp 7, Operand.tmp 9], argTypes := #[22, 22] }, type := 22, pos := "ref.go:76", after := #[{ on := 4, ground := Ground.data }, { on := 6, ground := Ground.data }], guard := none }) rfl (fun K hK => ?_) (AllReadyH.nil)
    refine step_append_sl rfl (.tmp 7) (.tmp 9) 22 22 rfl 5 j0 (.int .u8 0) 1 1 Tryd.underlying22 hj jz0 jz1 jz2 rfl (by decide) _ 0 [] rfl (own_of_heap 1 (heap_alloc_at _ _ _ (by simp))) _ A.length (A.map bv) rfl (src_slice Tryd.underlying22 (by simp) (at_no HA.out (Fr.trans HW0.out (((Fr.refl No ((w.alloc (.cells #[.int .i64 k, .int .i64 n, .slice aA A.length cA, .slice aB B.length cB] 24)).alloc (.cells #[.int .i64 0, .int .i64 0, .slice none 0 0, .slice none 0 0] 24))).drew.alloc (.cells #[] 5)).alloc (.cells #[] 5)))) (by simp [Value.oneCell'])) (by omega) (by omega) ?_
    intro vA wA hownA hfrA hblkA
    rw [Nat.zero_add, List.nil_append] at hownA
    have FA : Fr No ((w.alloc (.cells #[.int .i64 k, .int .i64 n, .slice aA A.length cA, .slice aB B.length cB] 24)).alloc (.cells #[.int .i64 0, .int .i64 0, .slice none 0 0, .slice none 0 0] 24)) wA := Fr.step (((Fr.refl No ((w.alloc (.cells #[.int .i64 k, .int .i64 n, .slice aA A.length cA, .slice aB B.length cB] 24)).alloc (.cells #[.int .i64 0, .int .i64 0, .slice none 0 0, .slice none 0 0] 24))).drew.alloc (.cells #[] 5)).alloc (.cells #[] 5)) hfrA (fun x o hx h => by have hx' : x < w.heap.size + 1 + 1 := (by simpa using hx); have h' : some (w.heap.size + 1 + 1 + 1) = some x := h; injection h' with h'; omega)
    have h11 : wA.heap[(w.heap.size + 1 + 1)]? = some (.cells #[] 5 (0, 0)) := (hfrA.block (w.heap.size + 1 + 1) (by simp) (fun _ h => by have h' : some (w.heap.size + 1 + 1 + 1) = some (w.heap.size + 1 + 1) := h; injection h' with h'; omega)).trans (by first | (rw [heap_alloc_old (h := by simp)]; exact heap_alloc_at _ _ _ (by simp)) | (rw [heap_drew, heap_alloc_old (h := by simp)]; exact heap_alloc_at _ _ _ (by simp)))
    have ha11 : ∀ x, vA.ownBlock = some x → x ≠ (w.heap.size + 1 + 1) := fun x e => by
      rcases hblkA with h | h
      · rw [h] at e; have h' : some (w.heap.size + 1 + 1 + 1) = some x := e; injection h' with h'; omega
      · rw [h] at e; have h' : some _ = some x := e; injection h' with h'; (try simp at h'); omega
    obtain ⟨a1, c1', hv1, hat1, _⟩ := hownA.at
    subst hv1
    have hn1 : ∀ g off, a1 = some ⟨g, off, none⟩ → g ≠ w.heap.size + 1 := fun g off e => by
      rcases hblkA with h | h
      · rw [e] at h; have h' : some g = some (w.heap.size + 1 + 1 + 1) := h; injection h' with h'; omega
      · rw [e] at h; have h' : some g = some _ := h; injection h' with h'; (try simp at h'); omega
    refine hK.out _ _ ⟨FA.cell _ 0 (by simp <;> omega) (fun x => x) |>.trans c0, FA.cell _ 1 (by simp <;> omega) (fun x => x) |>.trans c1, FA.cell _ 2 (by simp <;> omega) (fun x => x) |>.trans c2, FA.cell _ 3 (by simp <;> omega) (fun x => x) |>.trans c3⟩ (fun hHeld => ?_)
    clear hK K
    refine wpAnyH_ready (rs := [11]) (by kernel_rfl) (by simp) ?_
    refine AllReadyH.cons (o := { dst := some 14, op := Op.call { callee := Callee.builtin Builtin.append, args := #[Operand.tmp 11, Operand.tmp 13], argTypes := #[22, 22] }, type := 22, pos := "ref.go:76", after := #[{ on := 8, ground := Ground.data }, { on := 10, ground := Ground.data }, { on := 7, ground := Ground.chain }], guard := none }) rfl (fun K hK => ?_) (AllReadyH.nil)
    refine step_append_sl rfl (.tmp 11) (.tmp 13) 22 22 rfl 5 j0 (.int .u8 0) 1 1 Tryd.underlying22 hj jz0 jz1 jz2 rfl (by decide) _ 0 [] rfl (own_of_heap 1 h11) _ B.length (B.map bv) rfl (src_slice Tryd.underlying22 (by simp) (at_no HB.out (Fr.trans HW0.out FA)) (by simp [Value.oneCell'])) (by omega) (by omega) ?_
    intro vB wB hownB hfrB hblkB
    rw [Nat.zero_add, List.nil_append] at hownB
    have FB : Fr No ((w.alloc (.cells #[.int .i64 k, .int .i64 n, .slice aA A.length cA, .slice aB B.length cB] 24)).alloc (.cells #[.int .i64 0, .int .i64 0, .slice none 0 0, .slice none 0 0] 24)) wB := Fr.step FA hfrB (fun x o hx h => by have hx' : x < w.heap.size + 1 + 1 := (by simpa using hx); have h' : some (w.heap.size + 1 + 1) = some x := h; injection h' with h'; have := FA.size; simp at this; omega)
    have hat1 := hat1.fr hfrB (fun g off e hl i _ h => by have h' : some (w.heap.size + 1 + 1) = some g := h; injection h' with h'; exact ha11 g (by rw [e]; rfl) h'.symm)
    have hn2' : ∀ x, vB.ownBlock = some x → x ≠ w.heap.size + 1 := fun x e => by
      have hsA := FA.size; simp at hsA
      rcases hblkB with h | h
      · rw [h] at e; have h' : some (w.heap.size + 1 + 1) = some x := e; injection h' with h'; omega
      · rw [h] at e; have h' : some _ = some x := e; injection h' with h'; (try simp at h'); omega
    have hn2 : ∀ (a : Option Addr) (c : Nat), vB = .slice a B.length c → ∀ g off, a = some ⟨g, off, none⟩ → g ≠ w.heap.size + 1 := fun a c e g off e2 => hn2' g (by rw [e, e2]; rfl)
    refine hK.out _ _ ⟨FB.cell _ 0 (by simp <;> omega) (fun x => x) |>.trans c0, FB.cell _ 1 (by simp <;> omega) (fun x => x) |>.trans c1, FB.cell _ 2 (by simp <;> omega) (fun x => x) |>.trans c2, FB.cell _ 3 (by simp <;> omega) (fun x => x) |>.trans c3⟩ (fun hHeld => ?_)
    clear hK K
    obtain ⟨a2, c2', hv2, hat2, _⟩ := hownB.at
    subst hv2
    refine wpAnyH_take (i := 12) (oi := { dst := some 15, op := Op.build 24 #[(0, Operand.tmp 4), (1, Operand.tmp 6), (2, Operand.tmp 10), (3, Operand.tmp 14)], type := 24, pos := "ref.go:76", after := #[{ on := 1, ground := Ground.data }, { on := 3, ground := Ground.data }, { on := 7, ground := Ground.data }, { on := 11, ground := Ground.data }], guard := none }) (v := ?_) rfl (by kernel_rfl) (by kernel_rfl) (by kernel_rfl) (fun _ _ _ h => h) (Or.inl ⟨by rfl, ?_⟩) (by assumption) ?_
    rotate_left
    · intro W hSw
      obtain ⟨s0, s1, s2, s3⟩ := hSw
      go_simp
      try with_reducible rfl
    simp only [Act.put, List.setIfInBounds_toArray, List.set_cons_zero, List.set_cons_succ]
    refine wpAnyH_ready (rs := [13]) (by kernel_rfl) (by simp) ?_
    refine AllReadyH.cons (o := { dst := none, op := Op.store 24 (Operand.tmp 2) (Operand.tmp 15), type := 0, pos := "ref.go:76", after := #[{ on := 12, ground := Ground.data }, { on := 11, ground := Ground.chain }, { on := 0, ground := Ground.phase }, { on := 1, ground := Ground.phase }, { on := 2, ground := Ground.phase }, { on := 3, ground := Ground.phase }, { on := 4, ground := Ground.phase }, { on := 5, ground := Ground.phase }, { on := 6, ground := Ground.phase }, { on := 7, ground := Ground.phase }, { on := 8, ground := Ground.phase }, { on := 9, ground := Ground.phase }, { on := 10, ground := Ground.phase }, { on := 11, ground := Ground.phase }, { on := 12, ground := Ground.phase }], guard := none }) rfl (fun K hK => ?_) (AllReadyH.nil)
    rw [if_pos (by rfl)]
    have hres : wB.heap[w.heap.size + 1]? = some (.cells #[.int .i64 0, .int .i64 0, .slice none 0 0, .slice none 0 0] 24) := (FB.block _ (by simp) (fun _ x => x)).trans (heap_alloc_at _ _ _ (by simp))
    refine wp_store_row 24 (.tmp 2) (.tmp 15) rfl (w.heap.size + 1) #[.int .i64 k, .int .i64 n, .slice a1 A.length c1', .slice a2 B.length c2'] rfl rfl 24 #[.int .i64 0, .int .i64 0, .slice none 0 0, .slice none 0 0] hres HSZ.out rfl (by simp [Value.oneCell']) ?_
    have fset : Fr (fun x _ => x = w.heap.size + 1) wB (wB.setRow (w.heap.size + 1) #[.int .i64 k, .int .i64 n, .slice a1 A.length c1', .slice a2 B.length c2']) := (Fr.refl _ _).setRow _ _ (fun _ _ => rfl)
    have hsB := FB.size
    simp at hsB
    refine hK.out _ _ ⟨(fset.cell w.heap.size 0 (by omega) (fun x => by omega)).trans (FB.cell _ 0 (by simp <;> omega) (fun x => x) |>.trans c0), (fset.cell w.heap.size 1 (by omega) (fun x => by omega)).trans (FB.cell _ 1 (by simp <;> omega) (fun x => x) |>.trans c1), (fset.cell w.heap.size 2 (by omega) (fun x => by omega)).trans (FB.cell _ 2 (by simp <;> omega) (fun x => x) |>.trans c2), (fset.cell w.heap.size 3 (by omega) (fun x => by omega)).trans (FB.cell _ 3 (by simp <;> omega) (fun x => x) |>.trans c3)⟩ (fun hHeld => ?_)
    clear hK K
    refine wpAnyH_done (by kernel_rfl) ?_ _
    refine NoPanic.normal ?_
    go_wp2_with fail
    refine bodyPost_ret (v := .agg #[.int .i64 k, .int .i64 n, .slice a1 A.length c1', .slice a2 B.length c2']) (results_cell_row (p := 2) (ty := 24) (by kernel_rfl) _ _ (w.heap.size + 1) 24 #[.int .i64 k, .int .i64 n, .slice a1 A.length c1', .slice a2 B.length c2'] (0, 0) _ rfl (setRow_heap _ (w.heap.size + 1) _ _ 24 _ hres) Tryd.underlying24 rfl HSZ.out) rfl ⟨a1, c1', a2, c2', rfl, hat1.fr fset (fun g off e _ i _ h => hn1 g off e h), hat2.fr fset (fun g off e _ i _ h => hn2 _ _ rfl g off e h), ?_⟩
    exact (Fr.trans HW0.out FB).setRow _ _ (fun o h => by omega)
end Go.Proofs.YtjnebkoohimgjaaDoor
