/- Are A and B as a rule says: the rule of unlike bytes: a clone, sorted, compacted. -/
import Derived.Test.YtljldkknopmfhaaParB
import Derived.Test.YtljldkknopmfhaaSortT
import Derived.Test.YtljldkknopmfhaaCmp
import Derived.Deep.RegionHeld3
namespace Go.Proofs.Ytljldkknopmfhaa
open Go.RowKit

theorem getD_map_toNat (bs : List UInt8) (i : Nat) : (bs.getD i 0).toNat = (bs.map UInt8.toNat).getD i 0 := by
  simp only [List.getD_eq_getElem?_getD, List.getElem?_map]
  cases bs[i]? <;> rfl
/-- Sorted bytes have two neighbours alike just if they have two alike. -/
theorem unlike_sorted : ∀ (bs : List UInt8), bs.Pairwise (fun x y => x.toNat ≤ y.toNat) → (Unlike bs ↔ bs.Nodup)
  | [], _ => by simp [Unlike]
  | [x], _ => by simp [Unlike]
  | x :: y :: l, h => by
    have ih := unlike_sorted (y :: l) (List.pairwise_cons.1 h).2
    have h1 : Unlike (x :: y :: l) ↔ x ≠ y ∧ Unlike (y :: l) := by
      constructor
      · intro u
        refine ⟨by simpa using u 0 (by simp), fun i hi => ?_⟩
        have := u (i + 1) (by simp at hi ⊢; omega)
        simpa using this
      · rintro ⟨hn, u⟩ i hi
        cases i with
        | zero => simpa using hn
        | succ i => have := u i (by simp at hi ⊢; omega); simpa using this
    rw [h1, ih, show (x :: y :: l).Nodup ↔ x ∉ y :: l ∧ (y :: l).Nodup from List.nodup_cons]
    constructor
    · rintro ⟨hn, hd⟩
      refine ⟨fun hm => ?_, hd⟩
      rcases List.mem_cons.1 hm with e | e
      · exact hn e
      · have a1 := (List.pairwise_cons.1 h).1 y (by simp)
        have a2 := (List.pairwise_cons.1 (List.pairwise_cons.1 h).2).1 x e
        exact hn (UInt8.toNat.inj (by omega))
    · rintro ⟨hn, hd⟩
      exact ⟨fun e => hn (by simp [e]), hd⟩
theorem unlike_sortB (A : List UInt8) : Unlike (sortB A) ↔ A.Nodup := by
  rw [unlike_sorted _ (sortB_sorted A)]
  exact (sortB_perm A).nodup_iff
theorem sortB_length (A : List UInt8) : (sortB A).length = A.length := (sortB_perm A).length_eq
set_option maxHeartbeats 2000000 in
set_option maxRecDepth 100000 in
theorem bytes_unlike (l m i o h e k n : Int) (aA aB : Option Addr) (A B : List UInt8) (cA cB : Nat) (w : World) (hA : At w aA (A.map bv)) (hl : A.length ≤ 100000000) (_hl2 : B.length ≤ 100000000) :
    Calls Try.prog 85 #[.agg #[.int .i64 l, .int .i64 m, .int .i64 2, .int .i64 i, .int .i64 o, .int .i64 h, .int .i64 e], .agg #[.int .i64 k, .int .i64 n, .slice aA A.length cA, .slice aB B.length cB]] w (BPost w (bytesM 2 A B)) := by
  by_cases h1 : 1 ≤ A.length
  · by_cases h2 : A.length ≤ 64
    · have h1' : (1 : Int) ≤ A.length := by omega
      have h2' : (A.length : Int) ≤ 64 := by omega
      by_cases h3 : A.Nodup
      · by_cases h4 : B.length ≤ A.length
        · have hb : bytesM 2 A B = true := by simp [bytesM, h1, h2, h3, h4]
          rw [hb]
          have HN := Lib.hid h3
          clear hb h3
          go_enter Try.func85, Try.ntmps85
          go_wp2_with (first
            | (go_at_call 58; refine (clone_any _ _ _ A _ rfl (hA.fr (((Fr.refl No w).alloc _).alloc _) (fun _ _ _ _ _ _ x => x)) hl).mono ?_; rintro e w1 ⟨a1, c1, rfl, hown1, hfr1, hnew1⟩)
            | (go_at_call 99; refine (sort_any _ _ _ A _ rfl hown1 hl).mono ?_; rintro e w2 ⟨rfl, hown2, hfr2⟩))
          have hs1 := hfr1.size
          simp at hs1
          have hnb : ∀ o, ¬ Blk (.slice a1 A.length c1) (w.heap.size + 1) o := fun o e => by have := hnew1 _ e; simp at this; omega
          have k2 : w2.cell? ⟨w.heap.size + 1, 2, none⟩ = some (.slice aA A.length cA) := by
            rw [hfr2.cell _ _ (by omega) (hnb _), hfr1.cell _ _ (by simp) (fun x => x)]; simp [go_sem]
          have k3 : w2.cell? ⟨w.heap.size + 1, 3, none⟩ = some (.slice aB B.length cB) := by
            rw [hfr2.cell _ _ (by omega) (hnb _), hfr1.cell _ _ (by simp) (fun x => x)]; simp [go_sem]
          have hs2 : w.heap.size + 1 < w2.heap.size := by have := hfr2.size; omega
          have KF : Fr No w w2 := (((Fr.refl No w).alloc _).alloc _).trans hfr1 |>.step hfr2 (fun b o hb e => by have := hnew1 _ e; simp at this; omega)
          have hlb : (sortB A).length = A.length := sortB_length A
          have HLB := Lib.hid hlb
          clear hlb hfr1 hfr2 hown1 hs1
          go_region_held3 (fun W => W.cell? ⟨w.heap.size + 1, 2, none⟩ = some (.slice aA A.length cA) ∧ W.cell? ⟨w.heap.size + 1, 3, none⟩ = some (.slice aB B.length cB)) (first | exact ⟨k2, k3⟩ | exact ⟨(hfr3.at.1 _ _ (by simpa using hs2)).trans k2, (hfr3.at.1 _ _ (by simpa using hs2)).trans k3⟩)
            (first | (go_at_call 100; refine (compact_unlike _ _ _ (sortB A) _ HLB.out.symm (hown2.fr ((Fr.refl No w2).drew) (fun _ _ _ x => x)) (by rw [HLB.out]; exact hl) ((unlike_sortB A).2 HN.out)).mono ?_; rintro e w3 ⟨rfl, hfr3⟩))
          go_wp2
          go_ret
          exact ⟨rfl, KF.drew.trans hfr3⟩
        · have hb : bytesM 2 A B = false := by simp [bytesM, h4]
          rw [hb]
          have HN := Lib.hid h3
          have h5 : decide (B.length ≤ A.length) = false := decide_eq_false h4
          clear hb h3
          go_enter Try.func85, Try.ntmps85
          go_wp2_with (first
            | (go_at_call 58; refine (clone_any _ _ _ A _ rfl (hA.fr (((Fr.refl No w).alloc _).alloc _) (fun _ _ _ _ _ _ x => x)) hl).mono ?_; rintro e w1 ⟨a1, c1, rfl, hown1, hfr1, hnew1⟩)
            | (go_at_call 99; refine (sort_any _ _ _ A _ rfl hown1 hl).mono ?_; rintro e w2 ⟨rfl, hown2, hfr2⟩))
          have hs1 := hfr1.size
          simp at hs1
          have hnb : ∀ o, ¬ Blk (.slice a1 A.length c1) (w.heap.size + 1) o := fun o e => by have := hnew1 _ e; simp at this; omega
          have k2 : w2.cell? ⟨w.heap.size + 1, 2, none⟩ = some (.slice aA A.length cA) := by
            rw [hfr2.cell _ _ (by omega) (hnb _), hfr1.cell _ _ (by simp) (fun x => x)]; simp [go_sem]
          have k3 : w2.cell? ⟨w.heap.size + 1, 3, none⟩ = some (.slice aB B.length cB) := by
            rw [hfr2.cell _ _ (by omega) (hnb _), hfr1.cell _ _ (by simp) (fun x => x)]; simp [go_sem]
          have hs2 : w.heap.size + 1 < w2.heap.size := by have := hfr2.size; omega
          have KF : Fr No w w2 := (((Fr.refl No w).alloc _).alloc _).trans hfr1 |>.step hfr2 (fun b o hb e => by have := hnew1 _ e; simp at this; omega)
          have hlb : (sortB A).length = A.length := sortB_length A
          have HLB := Lib.hid hlb
          clear hlb hfr1 hfr2 hown1 hs1
          go_region_held3 (fun W => W.cell? ⟨w.heap.size + 1, 2, none⟩ = some (.slice aA A.length cA) ∧ W.cell? ⟨w.heap.size + 1, 3, none⟩ = some (.slice aB B.length cB)) (first | exact ⟨k2, k3⟩ | exact ⟨(hfr3.at.1 _ _ (by simpa using hs2)).trans k2, (hfr3.at.1 _ _ (by simpa using hs2)).trans k3⟩)
            (first | (go_at_call 100; refine (compact_unlike _ _ _ (sortB A) _ HLB.out.symm (hown2.fr ((Fr.refl No w2).drew) (fun _ _ _ x => x)) (by rw [HLB.out]; exact hl) ((unlike_sortB A).2 HN.out)).mono ?_; rintro e w3 ⟨rfl, hfr3⟩))
          go_wp2
          go_ret
          exact ⟨rfl, KF.drew.trans hfr3⟩
      · have hb : bytesM 2 A B = false := by simp [bytesM, h3]
        rw [hb]
        have HN := Lib.hid h3
        clear hb h3
        go_enter Try.func85, Try.ntmps85
        go_wp2_with (first
          | (go_at_call 58; refine (clone_any _ _ _ A _ rfl (hA.fr (((Fr.refl No w).alloc _).alloc _) (fun _ _ _ _ _ _ x => x)) hl).mono ?_; rintro e w1 ⟨a1, c1, rfl, hown1, hfr1, hnew1⟩)
          | (go_at_call 99; refine (sort_any _ _ _ A _ rfl hown1 hl).mono ?_; rintro e w2 ⟨rfl, hown2, hfr2⟩))
        have hs1 := hfr1.size
        simp at hs1
        have hnb : ∀ o, ¬ Blk (.slice a1 A.length c1) (w.heap.size + 1) o := fun o e => by have := hnew1 _ e; simp at this; omega
        have k2 : w2.cell? ⟨w.heap.size + 1, 2, none⟩ = some (.slice aA A.length cA) := by
          rw [hfr2.cell _ _ (by omega) (hnb _), hfr1.cell _ _ (by simp) (fun x => x)]; simp [go_sem]
        have k3 : w2.cell? ⟨w.heap.size + 1, 3, none⟩ = some (.slice aB B.length cB) := by
          rw [hfr2.cell _ _ (by omega) (hnb _), hfr1.cell _ _ (by simp) (fun x => x)]; simp [go_sem]
        have hs2 : w.heap.size + 1 < w2.heap.size := by have := hfr2.size; omega
        have KF : Fr No w w2 := (((Fr.refl No w).alloc _).alloc _).trans hfr1 |>.step hfr2 (fun b o hb e => by have := hnew1 _ e; simp at this; omega)
        have hlb : (sortB A).length = A.length := sortB_length A
        have HLB := Lib.hid hlb
        clear hlb hfr1 hfr2 hown1 hs1
        refine wp_region_noPanic ?_
        refine wp_region_held_drew (S := fun W => W.cell? ⟨w.heap.size + 1, 2, none⟩ = some (.slice aA A.length cA) ∧ W.cell? ⟨w.heap.size + 1, 3, none⟩ = some (.slice aB B.length cB)) (by kernel_rfl) ⟨k2, k3⟩ (fun hHeld => ?_)
        refine wpAnyH_take (i := 0) (oi := { dst := some 39, op := Op.move (Operand.tmp 5), type := 29, pos := "params.go:59", after := #[], guard := none }) (v := ?_) rfl (by kernel_rfl) (by kernel_rfl) (by kernel_rfl) (fun _ _ _ h => h) (Or.inl ⟨by rfl, ?_⟩) (by assumption) ?_
        rotate_left
        · intro W hSw
          obtain ⟨hSw1, hSw2⟩ := hSw
          go_simp
          try with_reducible rfl
        simp only [Act.put, List.setIfInBounds_toArray, List.set_cons_zero, List.set_cons_succ]
        refine wpAnyH_take (i := 1) (oi := { dst := some 40, op := Op.call { callee := Callee.builtin Builtin.len, args := #[Operand.tmp 39], argTypes := #[29] }, type := 3, pos := "params.go:59", after := #[{ on := 0, ground := Ground.data }], guard := none }) (v := ?_) rfl (by kernel_rfl) (by kernel_rfl) (by kernel_rfl) (fun _ _ _ h => h) (Or.inl ⟨by rfl, ?_⟩) (by assumption) ?_
        rotate_left
        · intro W hSw
          obtain ⟨hSw1, hSw2⟩ := hSw
          go_simp
          try with_reducible rfl
        simp only [Act.put, List.setIfInBounds_toArray, List.set_cons_zero, List.set_cons_succ]
        refine wpAnyH_take (i := 2) (oi := { dst := some 41, op := Op.binOp BinOp.geq 3 (Operand.tmp 40) (Operand.const (Value.int IntKind.i64 1)) 3, type := 4, pos := "params.go:59", after := #[{ on := 1, ground := Ground.data }], guard := none }) (v := ?_) rfl (by kernel_rfl) (by kernel_rfl) (by kernel_rfl) (fun _ _ _ h => h) (Or.inl ⟨by rfl, ?_⟩) (by assumption) ?_
        rotate_left
        · intro W hSw
          obtain ⟨hSw1, hSw2⟩ := hSw
          go_simp
          try with_reducible rfl
        simp only [Act.put, List.setIfInBounds_toArray, List.set_cons_zero, List.set_cons_succ]
        refine wpAnyH_take (i := 3) (oi := { dst := some 42, op := Op.move (Operand.tmp 41), type := 4, pos := "params.go:59", after := #[{ on := 2, ground := Ground.data }], guard := none }) (v := ?_) rfl (by kernel_rfl) (by kernel_rfl) (by kernel_rfl) (fun _ _ _ h => h) (Or.inl ⟨by rfl, ?_⟩) (by assumption) ?_
        rotate_left
        · intro W hSw
          obtain ⟨hSw1, hSw2⟩ := hSw
          go_simp
          try with_reducible rfl
        simp only [Act.put, List.setIfInBounds_toArray, List.set_cons_zero, List.set_cons_succ]
        refine wpAnyH_take (i := 4) (oi := { dst := some 43, op := Op.move (Operand.tmp 5), type := 29, pos := "params.go:59", after := #[{ on := 3, ground := Ground.guard }], guard := some (3, true) }) (v := ?_) rfl (by kernel_rfl) (by kernel_rfl) (by kernel_rfl) (fun _ _ _ h => h) (Or.inl ⟨by rfl, ?_⟩) (by assumption) ?_
        rotate_left
        · intro W hSw
          obtain ⟨hSw1, hSw2⟩ := hSw
          go_simp
          try with_reducible rfl
        simp only [Act.put, List.setIfInBounds_toArray, List.set_cons_zero, List.set_cons_succ]
        refine wpAnyH_take (i := 5) (oi := { dst := some 44, op := Op.call { callee := Callee.builtin Builtin.len, args := #[Operand.tmp 43], argTypes := #[29] }, type := 3, pos := "params.go:59", after := #[{ on := 4, ground := Ground.data }, { on := 3, ground := Ground.guard }], guard := some (3, true) }) (v := ?_) rfl (by kernel_rfl) (by kernel_rfl) (by kernel_rfl) (fun _ _ _ h => h) (Or.inl ⟨by rfl, ?_⟩) (by assumption) ?_
        rotate_left
        · intro W hSw
          obtain ⟨hSw1, hSw2⟩ := hSw
          go_simp
          try with_reducible rfl
        simp only [Act.put, List.setIfInBounds_toArray, List.set_cons_zero, List.set_cons_succ]
        refine wpAnyH_take (i := 6) (oi := { dst := some 45, op := Op.binOp BinOp.leq 3 (Operand.tmp 44) (Operand.const (Value.int IntKind.i64 64)) 3, type := 4, pos := "params.go:59", after := #[{ on := 5, ground := Ground.data }, { on := 3, ground := Ground.guard }], guard := some (3, true) }) (v := ?_) rfl (by kernel_rfl) (by kernel_rfl) (by kernel_rfl) (fun _ _ _ h => h) (Or.inl ⟨by rfl, ?_⟩) (by assumption) ?_
        rotate_left
        · intro W hSw
          obtain ⟨hSw1, hSw2⟩ := hSw
          go_simp
          try with_reducible rfl
        simp only [Act.put, List.setIfInBounds_toArray, List.set_cons_zero, List.set_cons_succ]
        refine wpAnyH_take (i := 7) (oi := { dst := some 46, op := Op.pick (Operand.tmp 42) (Operand.tmp 45) (Operand.const (Value.bool false)), type := 4, pos := "params.go:59", after := #[{ on := 3, ground := Ground.data }, { on := 6, ground := Ground.data }], guard := none }) (v := ?_) rfl (by kernel_rfl) (by kernel_rfl) (by kernel_rfl) (fun _ _ _ h => h) (Or.inl ⟨by rfl, ?_⟩) (by assumption) ?_
        rotate_left
        · intro W hSw
          obtain ⟨hSw1, hSw2⟩ := hSw
          go_simp
          try with_reducible rfl
        simp only [Act.put, List.setIfInBounds_toArray, List.set_cons_zero, List.set_cons_succ]
        refine wpAnyH_take (i := 8) (oi := { dst := some 47, op := Op.move (Operand.tmp 46), type := 4, pos := "params.go:59", after := #[{ on := 7, ground := Ground.data }, { on := 3, ground := Ground.chain }], guard := none }) (v := ?_) rfl (by kernel_rfl) (by kernel_rfl) (by kernel_rfl) (fun _ _ _ h => h) (Or.inl ⟨by rfl, ?_⟩) (by assumption) ?_
        rotate_left
        · intro W hSw
          obtain ⟨hSw1, hSw2⟩ := hSw
          go_simp
          try with_reducible rfl
        simp only [Act.put, List.setIfInBounds_toArray, List.set_cons_zero, List.set_cons_succ]
        refine wpAnyH_take (i := 9) (oi := { dst := some 48, op := Op.move (Operand.tmp 5), type := 29, pos := "params.go:59", after := #[{ on := 8, ground := Ground.guard }], guard := some (8, true) }) (v := ?_) rfl (by kernel_rfl) (by kernel_rfl) (by kernel_rfl) (fun _ _ _ h => h) (Or.inl ⟨by rfl, ?_⟩) (by assumption) ?_
        rotate_left
        · intro W hSw
          obtain ⟨hSw1, hSw2⟩ := hSw
          go_simp
          try with_reducible rfl
        simp only [Act.put, List.setIfInBounds_toArray, List.set_cons_zero, List.set_cons_succ]
        refine wpAnyH_take (i := 12) (oi := { dst := some 51, op := Op.fieldAddr 41 (Operand.tmp 3) 2, type := 0, pos := "params.go:59", after := #[{ on := 8, ground := Ground.guard }], guard := some (8, true) }) (v := ?_) rfl (by kernel_rfl) (by kernel_rfl) (by kernel_rfl) (fun _ _ _ h => h) (Or.inl ⟨by rfl, ?_⟩) (by assumption) ?_
        rotate_left
        · intro W hSw
          obtain ⟨hSw1, hSw2⟩ := hSw
          go_simp
          try with_reducible rfl
        simp only [Act.put, List.setIfInBounds_toArray, List.set_cons_zero, List.set_cons_succ]
        refine wpAnyH_take (i := 13) (oi := { dst := some 52, op := Op.load 29 (Operand.tmp 51), type := 29, pos := "params.go:59", after := #[{ on := 12, ground := Ground.data }, { on := 8, ground := Ground.guard }], guard := some (8, true) }) (v := ?_) rfl (by kernel_rfl) (by kernel_rfl) (by kernel_rfl) (fun _ _ _ h => h) (Or.inl ⟨by rfl, ?_⟩) (by assumption) ?_
        rotate_left
        · intro W hSw
          obtain ⟨hSw1, hSw2⟩ := hSw
          go_simp
          try with_reducible rfl
        simp only [Act.put, List.setIfInBounds_toArray, List.set_cons_zero, List.set_cons_succ]
        refine wpAnyH_take (i := 14) (oi := { dst := some 53, op := Op.call { callee := Callee.builtin Builtin.len, args := #[Operand.tmp 52], argTypes := #[29] }, type := 3, pos := "params.go:59", after := #[{ on := 13, ground := Ground.data }, { on := 8, ground := Ground.guard }], guard := some (8, true) }) (v := ?_) rfl (by kernel_rfl) (by kernel_rfl) (by kernel_rfl) (fun _ _ _ h => h) (Or.inl ⟨by rfl, ?_⟩) (by assumption) ?_
        rotate_left
        · intro W hSw
          obtain ⟨hSw1, hSw2⟩ := hSw
          go_simp
          try with_reducible rfl
        simp only [Act.put, List.setIfInBounds_toArray, List.set_cons_zero, List.set_cons_succ]
        refine wpAnyH_ready (rs := [10]) (by kernel_rfl) (by simp) ?_
        refine AllReadyH.cons (o := { dst := some 49, op := Op.call { callee := Callee.value (Operand.func 100), args := #[Operand.tmp 48], argTypes := #[29] }, type := 29, pos := "params.go:59", after := #[{ on := 9, ground := Ground.data }, { on := 8, ground := Ground.chain }, { on := 8, ground := Ground.guard }], guard := some (8, true) }) rfl (fun K hK => ?_) AllReadyH.nil
        go_simp
        go_at_call 100
        refine (compact_alike _ _ _ (sortB A) _ HLB.out.symm (hown2.fr ((Fr.refl No w2).drew) (fun _ _ _ x => x)) (by rw [HLB.out]; exact hl) (fun u => HN.out ((unlike_sortB A).1 u))).mono ?_
        rintro e w3 ⟨⟨m, hm, rfl⟩, hfr3⟩
        have hme : ((m : Int) == (A.length : Int)) = false := by simp only [beq_eq_false_iff_ne]; omega
        go_wp2_with fail
        refine hK.out _ _ ⟨(hfr3.cell _ _ (by simpa using hs2) (hnb _)).trans k2, (hfr3.cell _ _ (by simpa using hs2) (hnb _)).trans k3⟩ (fun hHeld => ?_)
        clear hK K
        refine wpAnyH_take (i := 11) (oi := { dst := some 50, op := Op.call { callee := Callee.builtin Builtin.len, args := #[Operand.tmp 49], argTypes := #[29] }, type := 3, pos := "params.go:59", after := #[{ on := 10, ground := Ground.data }, { on := 8, ground := Ground.guard }], guard := some (8, true) }) (v := ?_) rfl (by kernel_rfl) (by kernel_rfl) (by kernel_rfl) (fun _ _ _ h => h) (Or.inl ⟨by rfl, ?_⟩) (by assumption) ?_
        rotate_left
        · intro W hSw
          obtain ⟨hSw1, hSw2⟩ := hSw
          go_simp
          try with_reducible rfl
        simp only [Act.put, List.setIfInBounds_toArray, List.set_cons_zero, List.set_cons_succ]
        refine wpAnyH_take (i := 15) (oi := { dst := some 54, op := Op.binOp BinOp.eql 3 (Operand.tmp 50) (Operand.tmp 53) 3, type := 4, pos := "params.go:59", after := #[{ on := 11, ground := Ground.data }, { on := 14, ground := Ground.data }, { on := 8, ground := Ground.guard }], guard := some (8, true) }) (v := ?_) rfl (by kernel_rfl) (by kernel_rfl) (by kernel_rfl) (fun _ _ _ h => h) (Or.inl ⟨by rfl, ?_⟩) (by assumption) ?_
        rotate_left
        · intro W hSw
          obtain ⟨hSw1, hSw2⟩ := hSw
          go_simp
          try with_reducible rfl
        simp only [Act.put, List.setIfInBounds_toArray, List.set_cons_zero, List.set_cons_succ]
        refine wpAnyH_take (i := 16) (oi := { dst := some 55, op := Op.pick (Operand.tmp 47) (Operand.tmp 54) (Operand.const (Value.bool false)), type := 4, pos := "params.go:59", after := #[{ on := 8, ground := Ground.data }, { on := 15, ground := Ground.data }], guard := none }) (v := ?_) rfl (by kernel_rfl) (by kernel_rfl) (by kernel_rfl) (fun _ _ _ h => h) (Or.inl ⟨by rfl, ?_⟩) (by assumption) ?_
        rotate_left
        · intro W hSw
          obtain ⟨hSw1, hSw2⟩ := hSw
          go_simp
          try with_reducible rfl
        simp only [Act.put, List.setIfInBounds_toArray, List.set_cons_zero, List.set_cons_succ]
        refine wpAnyH_take (i := 17) (oi := { dst := some 56, op := Op.move (Operand.tmp 55), type := 4, pos := "params.go:59", after := #[{ on := 16, ground := Ground.data }, { on := 10, ground := Ground.chain }], guard := none }) (v := ?_) rfl (by kernel_rfl) (by kernel_rfl) (by kernel_rfl) (fun _ _ _ h => h) (Or.inl ⟨by rfl, ?_⟩) (by assumption) ?_
        rotate_left
        · intro W hSw
          obtain ⟨hSw1, hSw2⟩ := hSw
          go_simp
          try with_reducible rfl
        simp only [Act.put, List.setIfInBounds_toArray, List.set_cons_zero, List.set_cons_succ]
        refine wpAnyH_take (i := 18) (oi := { dst := some 57, op := Op.fieldAddr 41 (Operand.tmp 3) 3, type := 0, pos := "params.go:59", after := #[{ on := 17, ground := Ground.guard }], guard := some (17, true) }) (v := undef) rfl (by kernel_rfl) (by kernel_rfl) (by kernel_rfl) (fun _ _ _ h => h) (Or.inr ⟨by rfl, rfl⟩) (by assumption) ?_
        simp only [Act.put, List.setIfInBounds_toArray, List.set_cons_zero, List.set_cons_succ]
        refine wpAnyH_take (i := 19) (oi := { dst := some 58, op := Op.load 29 (Operand.tmp 57), type := 29, pos := "params.go:59", after := #[{ on := 18, ground := Ground.data }, { on := 17, ground := Ground.guard }], guard := some (17, true) }) (v := undef) rfl (by kernel_rfl) (by kernel_rfl) (by kernel_rfl) (fun _ _ _ h => h) (Or.inr ⟨by rfl, rfl⟩) (by assumption) ?_
        simp only [Act.put, List.setIfInBounds_toArray, List.set_cons_zero, List.set_cons_succ]
        refine wpAnyH_take (i := 20) (oi := { dst := some 59, op := Op.call { callee := Callee.builtin Builtin.len, args := #[Operand.tmp 58], argTypes := #[29] }, type := 3, pos := "params.go:59", after := #[{ on := 19, ground := Ground.data }, { on := 17, ground := Ground.guard }], guard := some (17, true) }) (v := undef) rfl (by kernel_rfl) (by kernel_rfl) (by kernel_rfl) (fun _ _ _ h => h) (Or.inr ⟨by rfl, rfl⟩) (by assumption) ?_
        simp only [Act.put, List.setIfInBounds_toArray, List.set_cons_zero, List.set_cons_succ]
        refine wpAnyH_take (i := 21) (oi := { dst := some 60, op := Op.fieldAddr 41 (Operand.tmp 3) 2, type := 0, pos := "params.go:59", after := #[{ on := 17, ground := Ground.guard }], guard := some (17, true) }) (v := undef) rfl (by kernel_rfl) (by kernel_rfl) (by kernel_rfl) (fun _ _ _ h => h) (Or.inr ⟨by rfl, rfl⟩) (by assumption) ?_
        simp only [Act.put, List.setIfInBounds_toArray, List.set_cons_zero, List.set_cons_succ]
        refine wpAnyH_take (i := 22) (oi := { dst := some 61, op := Op.load 29 (Operand.tmp 60), type := 29, pos := "params.go:59", after := #[{ on := 21, ground := Ground.data }, { on := 17, ground := Ground.guard }], guard := some (17, true) }) (v := undef) rfl (by kernel_rfl) (by kernel_rfl) (by kernel_rfl) (fun _ _ _ h => h) (Or.inr ⟨by rfl, rfl⟩) (by assumption) ?_
        simp only [Act.put, List.setIfInBounds_toArray, List.set_cons_zero, List.set_cons_succ]
        refine wpAnyH_take (i := 23) (oi := { dst := some 62, op := Op.call { callee := Callee.builtin Builtin.len, args := #[Operand.tmp 61], argTypes := #[29] }, type := 3, pos := "params.go:59", after := #[{ on := 22, ground := Ground.data }, { on := 17, ground := Ground.guard }], guard := some (17, true) }) (v := undef) rfl (by kernel_rfl) (by kernel_rfl) (by kernel_rfl) (fun _ _ _ h => h) (Or.inr ⟨by rfl, rfl⟩) (by assumption) ?_
        simp only [Act.put, List.setIfInBounds_toArray, List.set_cons_zero, List.set_cons_succ]
        refine wpAnyH_take (i := 24) (oi := { dst := some 63, op := Op.binOp BinOp.leq 3 (Operand.tmp 59) (Operand.tmp 62) 3, type := 4, pos := "params.go:59", after := #[{ on := 20, ground := Ground.data }, { on := 23, ground := Ground.data }, { on := 17, ground := Ground.guard }], guard := some (17, true) }) (v := undef) rfl (by kernel_rfl) (by kernel_rfl) (by kernel_rfl) (fun _ _ _ h => h) (Or.inr ⟨by rfl, rfl⟩) (by assumption) ?_
        simp only [Act.put, List.setIfInBounds_toArray, List.set_cons_zero, List.set_cons_succ]
        refine wpAnyH_take (i := 25) (oi := { dst := some 64, op := Op.pick (Operand.tmp 56) (Operand.tmp 63) (Operand.const (Value.bool false)), type := 4, pos := "params.go:59", after := #[{ on := 17, ground := Ground.data }, { on := 24, ground := Ground.data }], guard := none }) (v := ?_) rfl (by kernel_rfl) (by kernel_rfl) (by kernel_rfl) (fun _ _ _ h => h) (Or.inl ⟨by rfl, ?_⟩) (by assumption) ?_
        rotate_left
        · intro W hSw
          obtain ⟨hSw1, hSw2⟩ := hSw
          go_simp
          try with_reducible rfl
        simp only [Act.put, List.setIfInBounds_toArray, List.set_cons_zero, List.set_cons_succ]
        refine wpAnyH_take (i := 26) (oi := { dst := some 4, op := Op.assign (Operand.tmp 64), type := 4, pos := "params.go:59", after := #[{ on := 25, ground := Ground.data }, { on := 17, ground := Ground.chain }, { on := 0, ground := Ground.phase }, { on := 1, ground := Ground.phase }, { on := 2, ground := Ground.phase }, { on := 3, ground := Ground.phase }, { on := 4, ground := Ground.phase }, { on := 5, ground := Ground.phase }, { on := 6, ground := Ground.phase }, { on := 7, ground := Ground.phase }, { on := 8, ground := Ground.phase }, { on := 9, ground := Ground.phase }, { on := 10, ground := Ground.phase }, { on := 11, ground := Ground.phase }, { on := 12, ground := Ground.phase }, { on := 13, ground := Ground.phase }, { on := 14, ground := Ground.phase }, { on := 15, ground := Ground.phase }, { on := 16, ground := Ground.phase }, { on := 17, ground := Ground.phase }, { on := 18, ground := Ground.phase }, { on := 19, ground := Ground.phase }, { on := 20, ground := Ground.phase }, { on := 21, ground := Ground.phase }, { on := 22, ground := Ground.phase }, { on := 23, ground := Ground.phase }, { on := 24, ground := Ground.phase }, { on := 25, ground := Ground.phase }], guard := none }) (v := ?_) rfl (by kernel_rfl) (by kernel_rfl) (by kernel_rfl) (fun _ _ _ h => h) (Or.inl ⟨by rfl, ?_⟩) (by assumption) ?_
        rotate_left
        · intro W hSw
          obtain ⟨hSw1, hSw2⟩ := hSw
          go_simp
          try with_reducible rfl
        simp only [Act.put, List.setIfInBounds_toArray, List.set_cons_zero, List.set_cons_succ]
        refine wpAnyH_done (by kernel_rfl) ?_ _
        refine NoPanic.normal ?_
        go_wp2
        go_ret
        exact ⟨rfl, KF.drew.step hfr3 (fun b o hb e => by have := hnew1 _ e; simp at this; omega)⟩
    · have hb : bytesM 2 A B = false := by simp [bytesM, h2]
      rw [hb]
      have h1' : (1 : Int) ≤ A.length := by omega
      have h2' : decide ((A.length : Int) ≤ 64) = false := decide_eq_false (by omega)
      clear hb
      go_enter Try.func85, Try.ntmps85
      go_wp2_with (first
        | (go_at_call 58; refine (clone_any _ _ _ A _ rfl (hA.fr (((Fr.refl No w).alloc _).alloc _) (fun _ _ _ _ _ _ x => x)) hl).mono ?_; rintro e w1 ⟨a1, c1, rfl, hown1, hfr1, hnew1⟩)
        | (go_at_call 99; refine (sort_any _ _ _ A _ rfl hown1 hl).mono ?_; rintro e w2 ⟨rfl, hown2, hfr2⟩))
      have hs1 := hfr1.size
      simp at hs1
      have hnb : ∀ o, ¬ Blk (.slice a1 A.length c1) (w.heap.size + 1) o := fun o e => by have := hnew1 _ e; simp at this; omega
      have k2 : w2.cell? ⟨w.heap.size + 1, 2, none⟩ = some (.slice aA A.length cA) := by
        rw [hfr2.cell _ _ (by omega) (hnb _), hfr1.cell _ _ (by simp) (fun x => x)]; simp [go_sem]
      have k3 : w2.cell? ⟨w.heap.size + 1, 3, none⟩ = some (.slice aB B.length cB) := by
        rw [hfr2.cell _ _ (by omega) (hnb _), hfr1.cell _ _ (by simp) (fun x => x)]; simp [go_sem]
      have hs2 : w.heap.size + 1 < w2.heap.size := by have := hfr2.size; omega
      have KF : Fr No w w2 := (((Fr.refl No w).alloc _).alloc _).trans hfr1 |>.step hfr2 (fun b o hb e => by have := hnew1 _ e; simp at this; omega)
      have hlb : (sortB A).length = A.length := sortB_length A
      have HLB := Lib.hid hlb
      clear hlb hfr1 hfr2 hown1 hs1
      go_quiet (fail)
      go_wp2
      go_ret
      exact ⟨rfl, KF.drewN nq⟩
  · have hb : bytesM 2 A B = false := by simp [bytesM]; omega
    rw [hb]
    have h1' : decide ((1 : Int) ≤ A.length) = false := decide_eq_false (by omega)
    clear hb
    go_enter Try.func85, Try.ntmps85
    go_wp2_with (first
      | (go_at_call 58; refine (clone_any _ _ _ A _ rfl (hA.fr (((Fr.refl No w).alloc _).alloc _) (fun _ _ _ _ _ _ x => x)) hl).mono ?_; rintro e w1 ⟨a1, c1, rfl, hown1, hfr1, hnew1⟩)
      | (go_at_call 99; refine (sort_any _ _ _ A _ rfl hown1 hl).mono ?_; rintro e w2 ⟨rfl, hown2, hfr2⟩))
    have hs1 := hfr1.size
    simp at hs1
    have hnb : ∀ o, ¬ Blk (.slice a1 A.length c1) (w.heap.size + 1) o := fun o e => by have := hnew1 _ e; simp at this; omega
    have k2 : w2.cell? ⟨w.heap.size + 1, 2, none⟩ = some (.slice aA A.length cA) := by
      rw [hfr2.cell _ _ (by omega) (hnb _), hfr1.cell _ _ (by simp) (fun x => x)]; simp [go_sem]
    have k3 : w2.cell? ⟨w.heap.size + 1, 3, none⟩ = some (.slice aB B.length cB) := by
      rw [hfr2.cell _ _ (by omega) (hnb _), hfr1.cell _ _ (by simp) (fun x => x)]; simp [go_sem]
    have hs2 : w.heap.size + 1 < w2.heap.size := by have := hfr2.size; omega
    have KF : Fr No w w2 := (((Fr.refl No w).alloc _).alloc _).trans hfr1 |>.step hfr2 (fun b o hb e => by have := hnew1 _ e; simp at this; omega)
    have hlb : (sortB A).length = A.length := sortB_length A
    have HLB := Lib.hid hlb
    clear hlb hfr1 hfr2 hown1 hs1
    go_quiet (fail)
    go_wp2
    go_ret
    exact ⟨rfl, KF.drewN nq⟩
end Go.Proofs.Ytljldkknopmfhaa
