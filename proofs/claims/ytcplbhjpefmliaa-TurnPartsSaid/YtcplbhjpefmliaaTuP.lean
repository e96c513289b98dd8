/- TurnParts, walked. -/
import Derived.Test.YtcplbhjpefmliaaTuT
import Derived.Test.YtcplbhjpefmliaaTuLaw
import Derived.Test.YtcplbhjpefmliaaLiftP
import Derived.Test.YtcplbhjpefmliaaLiftS
import Derived.Deep.RegionHeld3
import Derived.Deep.Cut
import Derived.Deep.DeepCutAuto
namespace Go.Proofs.Ytcplbhjpefmliaa
open Go.RowKit

theorem hold {w : World} {o ob : Obj} {i : Nat} (h : w.heap[i]? = some ob) : (w.alloc o).heap[i]? = some ob := by
  rw [heap_alloc_old (h := (Array.getElem?_eq_some_iff.1 h).1)]; exact h
theorem flat_none (A B : List UInt8) : ∀ a : List UInt8, (∀ x ∈ a, x ∉ A) → a.flatMap (becomes A B) = a
  | [], _ => rfl
  | x :: a, h => by
    rw [List.flatMap_cons, becomes_no (h x (by simp)), flat_none A B a (fun y hy => h y (by simp [hy]))]; rfl
set_option maxHeartbeats 16000000 in
set_option maxRecDepth 100000 in
theorem core_parts (w : World) (k n : Int) (aA aB : Option Addr) (A B : List UInt8) (cA cB : Nat) (aa : Option Addr) (ac : Nat) (a : List UInt8) (ba : Option Addr) (bc : Nat) (b : List UInt8) (ca : Option Addr) (cc : Nat) (cuts : List Int) (hn : n ≤ 9223372036854775807)
    (hA : At w aA (A.map bv)) (hB : At w aB (B.map bv)) (ha : At w aa (a.map bv)) (hac : a.length ≤ ac) (hb : At w ba (b.map bv)) (hbc : b.length ≤ bc) (hc : At w ca (cuts.map iv)) :
    Calls Try.prog 16 #[.agg #[.int .i64 k, .int .i64 n, .slice aA A.length cA, .slice aB B.length cB], .slice aa a.length ac, .slice ba b.length bc, .slice ca cuts.length cc] w (TruePost w) := by
  obtain ⟨j0, hj, jz0, jz1, jz2⟩ := info_parts Try.info5
  have hsz : (Try.prog.info? 42).map (·.size) = some 12 := by kernel_rfl
  have HSZ := Lib.hid hsz
  have HA := Lib.hid hA; have HB := Lib.hid hB; have HAA := Lib.hid ha; have HBB := Lib.hid hb; have HC := Lib.hid hc
  clear hA hB ha hb hc hsz
  have hhv0 := fun (W : World) (hW : Fr No w W) (g : Nat) (hr : Row W g 0 [.slice ca cuts.length cc]) => heavy_any k n aA aB none (some ⟨g, 0, none⟩) A B cA cB 0 1 [] [(ca, cuts.length, cc)] W (At.nil _ _) (fun _ => ⟨g, 0, rfl, hr⟩) (by simp)
  simp only [List.length_nil, List.length_cons, Nat.zero_add] at hhv0
  have hft0 := fun (hlA : A.length ≤ 100000000) (hlB : B.length ≤ 100000000) (W : World) (hW : Fr No w W) (ai : Option Addr) (ci : Nat) => fit_any k n aA aB ai A B cA cB 1 ci W (at_no HA.out hW) hlA hlB
  obtain ⟨hv, hhv⟩ : ∃ x, x = heavyB A B [] [(ca, cuts.length, cc)] := ⟨_, rfl⟩
  obtain ⟨ft, hft⟩ : ∃ x, x = fitB 6 k n A B 1 := ⟨_, rfl⟩
  rw [← hhv] at hhv0
  rw [← hft] at hft0
  have HHV := Lib.hid hhv0
  have HHD := Lib.hid hhv.symm; have HFD := Lib.hid hft.symm
  clear hhv0 hhv hft
  obtain ⟨G, HG⟩ : ∃ G : Bool, Hid (G = (hv || decide (1000 < a.length) || decide (1000 < b.length) || !ft)) := ⟨_, Lib.hid rfl⟩
  have HW1 := Lib.hid ((Fr.refl No w).alloc (.cells #[.int .i64 k, .int .i64 n, .slice aA A.length cA, .slice aB B.length cB] 24))
  have H4 := Lib.hid (fun (W : World) (f : Fr No (w.alloc (.cells #[.int .i64 k, .int .i64 n, .slice aA A.length cA, .slice aB B.length cB] 24)) W) => (show W.cell? ⟨w.heap.size, 0, none⟩ = some (.int .i64 k) ∧ W.cell? ⟨w.heap.size, 1, none⟩ = some (.int .i64 n) ∧ W.cell? ⟨w.heap.size, 2, none⟩ = some (.slice aA A.length cA) ∧ W.cell? ⟨w.heap.size, 3, none⟩ = some (.slice aB B.length cB) from
    have x1 := (box_at f).1
    ⟨x1 0, x1 1, x1 2, x1 3⟩))
  go_enter Try.func16, Try.ntmps16
  go_upto_region 1 with fail
  go_cut [36] from 17 (fun s36 wx => s36 = .bool G ∧ Hid (Fr No (w.alloc (.cells #[.int .i64 k, .int .i64 n, .slice aA A.length cA, .slice aB B.length cB] 24)) wx))
  case first =>
    cases hv with
    | true =>
      have HGG := Lib.hid (show G = true from by rw [HG.out]; rfl)
      clear hft0
      refine wp_region_noPanic ?_
      refine wp_region_held_drew (S := (fun W => W.cell? ⟨w.heap.size, 0, none⟩ = some (.int .i64 k) ∧ W.cell? ⟨w.heap.size, 1, none⟩ = some (.int .i64 n) ∧ W.cell? ⟨w.heap.size, 2, none⟩ = some (.slice aA A.length cA) ∧ W.cell? ⟨w.heap.size, 3, none⟩ = some (.slice aB B.length cB))) (by kernel_rfl) (H4.out _ (Fr.refl _ _).drew) (fun hHeld => ?_)
      refine wpAnyH_take (i := 0) (oi := { dst := some 17, op := Op.load 24 (Operand.tmp 4), type := 24, pos := "meaning.go:26", after := #[], guard := none }) (v := ?_) rfl (by kernel_rfl) (by kernel_rfl) (by kernel_rfl) (fun _ _ _ h => h) (Or.inl ⟨by rfl, ?_⟩) (by assumption) ?_
      rotate_left
      · intro W hSw
        obtain ⟨s0, s1, s2, s3⟩ := hSw
        go_simp
        try with_reducible rfl
      simp only [Act.put, List.setIfInBounds_toArray, List.set_cons_zero, List.set_cons_succ]
      refine wpAnyH_take (i := 1) (oi := { dst := some 18, op := Op.move (Operand.tmp 3), type := 37, pos := "meaning.go:26", after := #[], guard := none }) (v := ?_) rfl (by kernel_rfl) (by kernel_rfl) (by kernel_rfl) (fun _ _ _ h => h) (Or.inl ⟨by rfl, ?_⟩) (by assumption) ?_
      rotate_left
      · intro W hSw
        obtain ⟨s0, s1, s2, s3⟩ := hSw
        go_simp
        try with_reducible rfl
      simp only [Act.put, List.setIfInBounds_toArray, List.set_cons_zero, List.set_cons_succ]
      refine wpAnyH_ready (rs := [2]) (by kernel_rfl) (by simp) ?_
      refine AllReadyH.cons (o := { dst := some 19, op := Op.buildSlice 79 1 #[(0, Operand.tmp 18)], type := 79, pos := "meaning.go:26", after := #[{ on := 1, ground := Ground.data }], guard := none }) rfl (fun K hK => ?_) (AllReadyH.nil)
      go_simp
      refine hK.out _ _ (H4.out _ ((Fr.refl _ _).drew.alloc _)) (fun hHeld => ?_)
      clear hK K
      refine wpAnyH_ready (rs := [3]) (by kernel_rfl) (by simp) ?_
      refine AllReadyH.cons (o := { dst := some 20, op := Op.call { callee := Callee.value (Operand.func 41), args := #[Operand.tmp 17, Operand.const (Value.slice none 0 0), Operand.tmp 19], argTypes := #[24, 36, 79] }, type := 4, pos := "meaning.go:26", after := #[{ on := 0, ground := Ground.data }, { on := 2, ground := Ground.data }], guard := none }) rfl (fun K hK => ?_) (AllReadyH.nil)
      go_simp
      go_at_call 41
      refine (HHV.out _ (HW1.out.trans ((Fr.refl _ _).drew.alloc _)) (w.heap.size + 1) (row_at _ #[.slice ca cuts.length cc] _ rfl _ (by simp) 37 (0, 0))).mono ?_
      rintro e1 w1 ⟨rfl, hf1⟩
      go_wp2_with fail
      refine hK.out _ _ (H4.out _ (((Fr.refl _ _).drew.alloc _).trans hf1)) (fun hHeld => ?_)
      clear hK K
      refine wpAnyH_take (i := 4) (oi := { dst := some 21, op := Op.move (Operand.tmp 20), type := 4, pos := "meaning.go:26", after := #[{ on := 3, ground := Ground.data }, { on := 3, ground := Ground.chain }], guard := none }) (v := ?_) rfl (by kernel_rfl) (by kernel_rfl) (by kernel_rfl) (fun _ _ _ h => h) (Or.inl ⟨by rfl, ?_⟩) (by assumption) ?_
      rotate_left
      · intro W hSw
        obtain ⟨s0, s1, s2, s3⟩ := hSw
        go_simp
        try with_reducible rfl
      simp only [Act.put, List.setIfInBounds_toArray, List.set_cons_zero, List.set_cons_succ]
      refine wpAnyH_take (i := 5) (oi := { dst := some 22, op := Op.move (Operand.tmp 1), type := 22, pos := "meaning.go:26", after := #[{ on := 4, ground := Ground.guard }], guard := some (4, false) }) (v := undef) rfl (by kernel_rfl) (by kernel_rfl) (by kernel_rfl) (fun _ _ _ h => h) (Or.inr ⟨by rfl, rfl⟩) (by assumption) ?_
      simp only [Act.put, List.setIfInBounds_toArray, List.set_cons_zero, List.set_cons_succ]
      refine wpAnyH_take (i := 6) (oi := { dst := some 23, op := Op.call { callee := Callee.builtin Builtin.len, args := #[Operand.tmp 22], argTypes := #[22] }, type := 3, pos := "meaning.go:26", after := #[{ on := 5, ground := Ground.data }, { on := 4, ground := Ground.guard }], guard := some (4, false) }) (v := undef) rfl (by kernel_rfl) (by kernel_rfl) (by kernel_rfl) (fun _ _ _ h => h) (Or.inr ⟨by rfl, rfl⟩) (by assumption) ?_
      simp only [Act.put, List.setIfInBounds_toArray, List.set_cons_zero, List.set_cons_succ]
      refine wpAnyH_take (i := 7) (oi := { dst := some 24, op := Op.binOp BinOp.gtr 3 (Operand.tmp 23) (Operand.const (Value.int IntKind.i64 1000)) 3, type := 4, pos := "meaning.go:26", after := #[{ on := 6, ground := Ground.data }, { on := 4, ground := Ground.guard }], guard := some (4, false) }) (v := undef) rfl (by kernel_rfl) (by kernel_rfl) (by kernel_rfl) (fun _ _ _ h => h) (Or.inr ⟨by rfl, rfl⟩) (by assumption) ?_
      simp only [Act.put, List.setIfInBounds_toArray, List.set_cons_zero, List.set_cons_succ]
      refine wpAnyH_take (i := 8) (oi := { dst := some 25, op := Op.pick (Operand.tmp 21) (Operand.const (Value.bool true)) (Operand.tmp 24), type := 4, pos := "meaning.go:26", after := #[{ on := 4, ground := Ground.data }, { on := 7, ground := Ground.data }], guard := none }) (v := ?_) rfl (by kernel_rfl) (by kernel_rfl) (by kernel_rfl) (fun _ _ _ h => h) (Or.inl ⟨by rfl, ?_⟩) (by assumption) ?_
      rotate_left
      · intro W hSw
        obtain ⟨s0, s1, s2, s3⟩ := hSw
        go_simp
        try with_reducible rfl
      simp only [Act.put, List.setIfInBounds_toArray, List.set_cons_zero, List.set_cons_succ]
      refine wpAnyH_take (i := 9) (oi := { dst := some 26, op := Op.move (Operand.tmp 25), type := 4, pos := "meaning.go:26", after := #[{ on := 8, ground := Ground.data }, { on := 4, ground := Ground.chain }], guard := none }) (v := ?_) rfl (by kernel_rfl) (by kernel_rfl) (by kernel_rfl) (fun _ _ _ h => h) (Or.inl ⟨by rfl, ?_⟩) (by assumption) ?_
      rotate_left
      · intro W hSw
        obtain ⟨s0, s1, s2, s3⟩ := hSw
        go_simp
        try with_reducible rfl
      simp only [Act.put, List.setIfInBounds_toArray, List.set_cons_zero, List.set_cons_succ]
      refine wpAnyH_take (i := 10) (oi := { dst := some 27, op := Op.move (Operand.tmp 2), type := 22, pos := "meaning.go:26", after := #[{ on := 9, ground := Ground.guard }], guard := some (9, false) }) (v := undef) rfl (by kernel_rfl) (by kernel_rfl) (by kernel_rfl) (fun _ _ _ h => h) (Or.inr ⟨by rfl, rfl⟩) (by assumption) ?_
      simp only [Act.put, List.setIfInBounds_toArray, List.set_cons_zero, List.set_cons_succ]
      refine wpAnyH_take (i := 11) (oi := { dst := some 28, op := Op.call { callee := Callee.builtin Builtin.len, args := #[Operand.tmp 27], argTypes := #[22] }, type := 3, pos := "meaning.go:26", after := #[{ on := 10, ground := Ground.data }, { on := 9, ground := Ground.guard }], guard := some (9, false) }) (v := undef) rfl (by kernel_rfl) (by kernel_rfl) (by kernel_rfl) (fun _ _ _ h => h) (Or.inr ⟨by rfl, rfl⟩) (by assumption) ?_
      simp only [Act.put, List.setIfInBounds_toArray, List.set_cons_zero, List.set_cons_succ]
      refine wpAnyH_take (i := 12) (oi := { dst := some 29, op := Op.binOp BinOp.gtr 3 (Operand.tmp 28) (Operand.const (Value.int IntKind.i64 1000)) 3, type := 4, pos := "meaning.go:26", after := #[{ on := 11, ground := Ground.data }, { on := 9, ground := Ground.guard }], guard := some (9, false) }) (v := undef) rfl (by kernel_rfl) (by kernel_rfl) (by kernel_rfl) (fun _ _ _ h => h) (Or.inr ⟨by rfl, rfl⟩) (by assumption) ?_
      simp only [Act.put, List.setIfInBounds_toArray, List.set_cons_zero, List.set_cons_succ]
      refine wpAnyH_take (i := 13) (oi := { dst := some 30, op := Op.pick (Operand.tmp 26) (Operand.const (Value.bool true)) (Operand.tmp 29), type := 4, pos := "meaning.go:26", after := #[{ on := 9, ground := Ground.data }, { on := 12, ground := Ground.data }], guard := none }) (v := ?_) rfl (by kernel_rfl) (by kernel_rfl) (by kernel_rfl) (fun _ _ _ h => h) (Or.inl ⟨by rfl, ?_⟩) (by assumption) ?_
      rotate_left
      · intro W hSw
        obtain ⟨s0, s1, s2, s3⟩ := hSw
        go_simp
        try with_reducible rfl
      simp only [Act.put, List.setIfInBounds_toArray, List.set_cons_zero, List.set_cons_succ]
      refine wpAnyH_take (i := 14) (oi := { dst := some 31, op := Op.move (Operand.tmp 30), type := 4, pos := "meaning.go:26", after := #[{ on := 13, ground := Ground.data }, { on := 9, ground := Ground.chain }], guard := none }) (v := ?_) rfl (by kernel_rfl) (by kernel_rfl) (by kernel_rfl) (fun _ _ _ h => h) (Or.inl ⟨by rfl, ?_⟩) (by assumption) ?_
      rotate_left
      · intro W hSw
        obtain ⟨s0, s1, s2, s3⟩ := hSw
        go_simp
        try with_reducible rfl
      simp only [Act.put, List.setIfInBounds_toArray, List.set_cons_zero, List.set_cons_succ]
      refine wpAnyH_take (i := 15) (oi := { dst := some 32, op := Op.load 24 (Operand.tmp 4), type := 24, pos := "meaning.go:26", after := #[{ on := 14, ground := Ground.guard }], guard := some (14, false) }) (v := undef) rfl (by kernel_rfl) (by kernel_rfl) (by kernel_rfl) (fun _ _ _ h => h) (Or.inr ⟨by rfl, rfl⟩) (by assumption) ?_
      simp only [Act.put, List.setIfInBounds_toArray, List.set_cons_zero, List.set_cons_succ]
      refine wpAnyH_take (i := 16) (oi := { dst := some 33, op := Op.makeSlice 36 (Operand.const (Value.int IntKind.i64 1)) (Operand.const (Value.int IntKind.i64 1)), type := 36, pos := "meaning.go:26", after := #[{ on := 14, ground := Ground.guard }], guard := some (14, false) }) (v := undef) rfl (by kernel_rfl) (by kernel_rfl) (by kernel_rfl) (fun _ _ _ h => h) (Or.inr ⟨by rfl, rfl⟩) (by assumption) ?_
      simp only [Act.put, List.setIfInBounds_toArray, List.set_cons_zero, List.set_cons_succ]
      refine wpAnyH_take (i := 17) (oi := { dst := some 34, op := Op.call { callee := Callee.value (Operand.func 44), args := #[Operand.tmp 32, Operand.tmp 33], argTypes := #[24, 36] }, type := 4, pos := "meaning.go:26", after := #[{ on := 15, ground := Ground.data }, { on := 16, ground := Ground.data }, { on := 14, ground := Ground.chain }, { on := 14, ground := Ground.guard }], guard := some (14, false) }) (v := undef) rfl (by kernel_rfl) (by kernel_rfl) (by kernel_rfl) (fun _ _ _ h => h) (Or.inr ⟨by rfl, rfl⟩) (by assumption) ?_
      simp only [Act.put, List.setIfInBounds_toArray, List.set_cons_zero, List.set_cons_succ]
      refine wpAnyH_take (i := 18) (oi := { dst := some 35, op := Op.unOp UnOp.not 4 (Operand.tmp 34), type := 4, pos := "meaning.go:26", after := #[{ on := 17, ground := Ground.data }, { on := 14, ground := Ground.guard }], guard := some (14, false) }) (v := undef) rfl (by kernel_rfl) (by kernel_rfl) (by kernel_rfl) (fun _ _ _ h => h) (Or.inr ⟨by rfl, rfl⟩) (by assumption) ?_
      simp only [Act.put, List.setIfInBounds_toArray, List.set_cons_zero, List.set_cons_succ]
      refine wpAnyH_take (i := 19) (oi := { dst := some 36, op := Op.pick (Operand.tmp 31) (Operand.const (Value.bool true)) (Operand.tmp 35), type := 4, pos := "meaning.go:26", after := #[{ on := 14, ground := Ground.data }, { on := 18, ground := Ground.data }], guard := none }) (v := ?_) rfl (by kernel_rfl) (by kernel_rfl) (by kernel_rfl) (fun _ _ _ h => h) (Or.inl ⟨by rfl, ?_⟩) (by assumption) ?_
      rotate_left
      · intro W hSw
        obtain ⟨s0, s1, s2, s3⟩ := hSw
        go_simp
        try with_reducible rfl
      simp only [Act.put, List.setIfInBounds_toArray, List.set_cons_zero, List.set_cons_succ]
      refine wpAnyH_done (by kernel_rfl) ?_ _
      refine NoPanic.normal ?_
      go_wp2_with fail
      go_meet
      case rel => exact ⟨by rw [HGG.out], Lib.hid (((Fr.refl _ _).drew.alloc _).trans hf1)⟩

    | false =>
      have hh : ¬ (1000 < A.length ∨ 1000 < B.length ∨ 8 < ([] : List Strm).length ∨ (∃ s ∈ ([] : List Strm), 2000 < s.b.length) ∨ (∃ c ∈ [(ca, cuts.length, cc)], 3000 < c.2.1)) := by
        have := HHD.out; unfold heavyB at this; exact of_decide_eq_false this
      have hlA : A.length ≤ 100000000 := by rw [not_or] at hh; omega
      have hlB : B.length ≤ 100000000 := by rw [not_or, not_or] at hh; omega
      clear hh
      have HFT := Lib.hid (hft0 hlA hlB)
      clear hft0
      by_cases hak : 1000 < a.length
      · have hai : (1000 : Int) < a.length := by omega
        have HGG := Lib.hid (show G = true from by rw [HG.out]; simp [hak])
        clear hak
        refine wp_region_noPanic ?_
        refine wp_region_held_drew (S := (fun W => W.cell? ⟨w.heap.size, 0, none⟩ = some (.int .i64 k) ∧ W.cell? ⟨w.heap.size, 1, none⟩ = some (.int .i64 n) ∧ W.cell? ⟨w.heap.size, 2, none⟩ = some (.slice aA A.length cA) ∧ W.cell? ⟨w.heap.size, 3, none⟩ = some (.slice aB B.length cB))) (by kernel_rfl) (H4.out _ (Fr.refl _ _).drew) (fun hHeld => ?_)
        refine wpAnyH_take (i := 0) (oi := { dst := some 17, op := Op.load 24 (Operand.tmp 4), type := 24, pos := "meaning.go:26", after := #[], guard := none }) (v := ?_) rfl (by kernel_rfl) (by kernel_rfl) (by kernel_rfl) (fun _ _ _ h => h) (Or.inl ⟨by rfl, ?_⟩) (by assumption) ?_
        rotate_left
        · intro W hSw
          obtain ⟨s0, s1, s2, s3⟩ := hSw
          go_simp
          try with_reducible rfl
        simp only [Act.put, List.setIfInBounds_toArray, List.set_cons_zero, List.set_cons_succ]
        refine wpAnyH_take (i := 1) (oi := { dst := some 18, op := Op.move (Operand.tmp 3), type := 37, pos := "meaning.go:26", after := #[], guard := none }) (v := ?_) rfl (by kernel_rfl) (by kernel_rfl) (by kernel_rfl) (fun _ _ _ h => h) (Or.inl ⟨by rfl, ?_⟩) (by assumption) ?_
        rotate_left
        · intro W hSw
          obtain ⟨s0, s1, s2, s3⟩ := hSw
          go_simp
          try with_reducible rfl
        simp only [Act.put, List.setIfInBounds_toArray, List.set_cons_zero, List.set_cons_succ]
        refine wpAnyH_ready (rs := [2]) (by kernel_rfl) (by simp) ?_
        refine AllReadyH.cons (o := { dst := some 19, op := Op.buildSlice 79 1 #[(0, Operand.tmp 18)], type := 79, pos := "meaning.go:26", after := #[{ on := 1, ground := Ground.data }], guard := none }) rfl (fun K hK => ?_) (AllReadyH.nil)
        go_simp
        refine hK.out _ _ (H4.out _ ((Fr.refl _ _).drew.alloc _)) (fun hHeld => ?_)
        clear hK K
        refine wpAnyH_ready (rs := [3]) (by kernel_rfl) (by simp) ?_
        refine AllReadyH.cons (o := { dst := some 20, op := Op.call { callee := Callee.value (Operand.func 41), args := #[Operand.tmp 17, Operand.const (Value.slice none 0 0), Operand.tmp 19], argTypes := #[24, 36, 79] }, type := 4, pos := "meaning.go:26", after := #[{ on := 0, ground := Ground.data }, { on := 2, ground := Ground.data }], guard := none }) rfl (fun K hK => ?_) (AllReadyH.nil)
        go_simp
        go_at_call 41
        refine (HHV.out _ (HW1.out.trans ((Fr.refl _ _).drew.alloc _)) (w.heap.size + 1) (row_at _ #[.slice ca cuts.length cc] _ rfl _ (by simp) 37 (0, 0))).mono ?_
        rintro e1 w1 ⟨rfl, hf1⟩
        go_wp2_with fail
        refine hK.out _ _ (H4.out _ (((Fr.refl _ _).drew.alloc _).trans hf1)) (fun hHeld => ?_)
        clear hK K
        refine wpAnyH_take (i := 4) (oi := { dst := some 21, op := Op.move (Operand.tmp 20), type := 4, pos := "meaning.go:26", after := #[{ on := 3, ground := Ground.data }, { on := 3, ground := Ground.chain }], guard := none }) (v := ?_) rfl (by kernel_rfl) (by kernel_rfl) (by kernel_rfl) (fun _ _ _ h => h) (Or.inl ⟨by rfl, ?_⟩) (by assumption) ?_
        rotate_left
        · intro W hSw
          obtain ⟨s0, s1, s2, s3⟩ := hSw
          go_simp
          try with_reducible rfl
        simp only [Act.put, List.setIfInBounds_toArray, List.set_cons_zero, List.set_cons_succ]
        refine wpAnyH_take (i := 5) (oi := { dst := some 22, op := Op.move (Operand.tmp 1), type := 22, pos := "meaning.go:26", after := #[{ on := 4, ground := Ground.guard }], guard := some (4, false) }) (v := ?_) rfl (by kernel_rfl) (by kernel_rfl) (by kernel_rfl) (fun _ _ _ h => h) (Or.inl ⟨by rfl, ?_⟩) (by assumption) ?_
        rotate_left
        · intro W hSw
          obtain ⟨s0, s1, s2, s3⟩ := hSw
          go_simp
          try with_reducible rfl
        simp only [Act.put, List.setIfInBounds_toArray, List.set_cons_zero, List.set_cons_succ]
        refine wpAnyH_take (i := 6) (oi := { dst := some 23, op := Op.call { callee := Callee.builtin Builtin.len, args := #[Operand.tmp 22], argTypes := #[22] }, type := 3, pos := "meaning.go:26", after := #[{ on := 5, ground := Ground.data }, { on := 4, ground := Ground.guard }], guard := some (4, false) }) (v := ?_) rfl (by kernel_rfl) (by kernel_rfl) (by kernel_rfl) (fun _ _ _ h => h) (Or.inl ⟨by rfl, ?_⟩) (by assumption) ?_
        rotate_left
        · intro W hSw
          obtain ⟨s0, s1, s2, s3⟩ := hSw
          go_simp
          try with_reducible rfl
        simp only [Act.put, List.setIfInBounds_toArray, List.set_cons_zero, List.set_cons_succ]
        refine wpAnyH_take (i := 7) (oi := { dst := some 24, op := Op.binOp BinOp.gtr 3 (Operand.tmp 23) (Operand.const (Value.int IntKind.i64 1000)) 3, type := 4, pos := "meaning.go:26", after := #[{ on := 6, ground := Ground.data }, { on := 4, ground := Ground.guard }], guard := some (4, false) }) (v := ?_) rfl (by kernel_rfl) (by kernel_rfl) (by kernel_rfl) (fun _ _ _ h => h) (Or.inl ⟨by rfl, ?_⟩) (by assumption) ?_
        rotate_left
        · intro W hSw
          obtain ⟨s0, s1, s2, s3⟩ := hSw
          go_simp
          try with_reducible rfl
        simp only [Act.put, List.setIfInBounds_toArray, List.set_cons_zero, List.set_cons_succ]
        refine wpAnyH_take (i := 8) (oi := { dst := some 25, op := Op.pick (Operand.tmp 21) (Operand.const (Value.bool true)) (Operand.tmp 24), type := 4, pos := "meaning.go:26", after := #[{ on := 4, ground := Ground.data }, { on := 7, ground := Ground.data }], guard := none }) (v := ?_) rfl (by kernel_rfl) (by kernel_rfl) (by kernel_rfl) (fun _ _ _ h => h) (Or.inl ⟨by rfl, ?_⟩) (by assumption) ?_
        rotate_left
        · intro W hSw
          obtain ⟨s0, s1, s2, s3⟩ := hSw
          go_simp
          try with_reducible rfl
        simp only [Act.put, List.setIfInBounds_toArray, List.set_cons_zero, List.set_cons_succ]
        refine wpAnyH_take (i := 9) (oi := { dst := some 26, op := Op.move (Operand.tmp 25), type := 4, pos := "meaning.go:26", after := #[{ on := 8, ground := Ground.data }, { on := 4, ground := Ground.chain }], guard := none }) (v := ?_) rfl (by kernel_rfl) (by kernel_rfl) (by kernel_rfl) (fun _ _ _ h => h) (Or.inl ⟨by rfl, ?_⟩) (by assumption) ?_
        rotate_left
        · intro W hSw
          obtain ⟨s0, s1, s2, s3⟩ := hSw
          go_simp
          try with_reducible rfl
        simp only [Act.put, List.setIfInBounds_toArray, List.set_cons_zero, List.set_cons_succ]
        refine wpAnyH_take (i := 10) (oi := { dst := some 27, op := Op.move (Operand.tmp 2), type := 22, pos := "meaning.go:26", after := #[{ on := 9, ground := Ground.guard }], guard := some (9, false) }) (v := undef) rfl (by kernel_rfl) (by kernel_rfl) (by kernel_rfl) (fun _ _ _ h => h) (Or.inr ⟨by rfl, rfl⟩) (by assumption) ?_
        simp only [Act.put, List.setIfInBounds_toArray, List.set_cons_zero, List.set_cons_succ]
        refine wpAnyH_take (i := 11) (oi := { dst := some 28, op := Op.call { callee := Callee.builtin Builtin.len, args := #[Operand.tmp 27], argTypes := #[22] }, type := 3, pos := "meaning.go:26", after := #[{ on := 10, ground := Ground.data }, { on := 9, ground := Ground.guard }], guard := some (9, false) }) (v := undef) rfl (by kernel_rfl) (by kernel_rfl) (by kernel_rfl) (fun _ _ _ h => h) (Or.inr ⟨by rfl, rfl⟩) (by assumption) ?_
        simp only [Act.put, List.setIfInBounds_toArray, List.set_cons_zero, List.set_cons_succ]
        refine wpAnyH_take (i := 12) (oi := { dst := some 29, op := Op.binOp BinOp.gtr 3 (Operand.tmp 28) (Operand.const (Value.int IntKind.i64 1000)) 3, type := 4, pos := "meaning.go:26", after := #[{ on := 11, ground := Ground.data }, { on := 9, ground := Ground.guard }], guard := some (9, false) }) (v := undef) rfl (by kernel_rfl) (by kernel_rfl) (by kernel_rfl) (fun _ _ _ h => h) (Or.inr ⟨by rfl, rfl⟩) (by assumption) ?_
        simp only [Act.put, List.setIfInBounds_toArray, List.set_cons_zero, List.set_cons_succ]
        refine wpAnyH_take (i := 13) (oi := { dst := some 30, op := Op.pick (Operand.tmp 26) (Operand.const (Value.bool true)) (Operand.tmp 29), type := 4, pos := "meaning.go:26", after := #[{ on := 9, ground := Ground.data }, { on := 12, ground := Ground.data }], guard := none }) (v := ?_) rfl (by kernel_rfl) (by kernel_rfl) (by kernel_rfl) (fun _ _ _ h => h) (Or.inl ⟨by rfl, ?_⟩) (by assumption) ?_
        rotate_left
        · intro W hSw
          obtain ⟨s0, s1, s2, s3⟩ := hSw
          go_simp
          try with_reducible rfl
        simp only [Act.put, List.setIfInBounds_toArray, List.set_cons_zero, List.set_cons_succ]
        refine wpAnyH_take (i := 14) (oi := { dst := some 31, op := Op.move (Operand.tmp 30), type := 4, pos := "meaning.go:26", after := #[{ on := 13, ground := Ground.data }, { on := 9, ground := Ground.chain }], guard := none }) (v := ?_) rfl (by kernel_rfl) (by kernel_rfl) (by kernel_rfl) (fun _ _ _ h => h) (Or.inl ⟨by rfl, ?_⟩) (by assumption) ?_
        rotate_left
        · intro W hSw
          obtain ⟨s0, s1, s2, s3⟩ := hSw
          go_simp
          try with_reducible rfl
        simp only [Act.put, List.setIfInBounds_toArray, List.set_cons_zero, List.set_cons_succ]
        refine wpAnyH_take (i := 15) (oi := { dst := some 32, op := Op.load 24 (Operand.tmp 4), type := 24, pos := "meaning.go:26", after := #[{ on := 14, ground := Ground.guard }], guard := some (14, false) }) (v := undef) rfl (by kernel_rfl) (by kernel_rfl) (by kernel_rfl) (fun _ _ _ h => h) (Or.inr ⟨by rfl, rfl⟩) (by assumption) ?_
        simp only [Act.put, List.setIfInBounds_toArray, List.set_cons_zero, List.set_cons_succ]
        refine wpAnyH_take (i := 16) (oi := { dst := some 33, op := Op.makeSlice 36 (Operand.const (Value.int IntKind.i64 1)) (Operand.const (Value.int IntKind.i64 1)), type := 36, pos := "meaning.go:26", after := #[{ on := 14, ground := Ground.guard }], guard := some (14, false) }) (v := undef) rfl (by kernel_rfl) (by kernel_rfl) (by kernel_rfl) (fun _ _ _ h => h) (Or.inr ⟨by rfl, rfl⟩) (by assumption) ?_
        simp only [Act.put, List.setIfInBounds_toArray, List.set_cons_zero, List.set_cons_succ]
        refine wpAnyH_take (i := 17) (oi := { dst := some 34, op := Op.call { callee := Callee.value (Operand.func 44), args := #[Operand.tmp 32, Operand.tmp 33], argTypes := #[24, 36] }, type := 4, pos := "meaning.go:26", after := #[{ on := 15, ground := Ground.data }, { on := 16, ground := Ground.data }, { on := 14, ground := Ground.chain }, { on := 14, ground := Ground.guard }], guard := some (14, false) }) (v := undef) rfl (by kernel_rfl) (by kernel_rfl) (by kernel_rfl) (fun _ _ _ h => h) (Or.inr ⟨by rfl, rfl⟩) (by assumption) ?_
        simp only [Act.put, List.setIfInBounds_toArray, List.set_cons_zero, List.set_cons_succ]
        refine wpAnyH_take (i := 18) (oi := { dst := some 35, op := Op.unOp UnOp.not 4 (Operand.tmp 34), type := 4, pos := "meaning.go:26", after := #[{ on := 17, ground := Ground.data }, { on := 14, ground := Ground.guard }], guard := some (14, false) }) (v := undef) rfl (by kernel_rfl) (by kernel_rfl) (by kernel_rfl) (fun _ _ _ h => h) (Or.inr ⟨by rfl, rfl⟩) (by assumption) ?_
        simp only [Act.put, List.setIfInBounds_toArray, List.set_cons_zero, List.set_cons_succ]
        refine wpAnyH_take (i := 19) (oi := { dst := some 36, op := Op.pick (Operand.tmp 31) (Operand.const (Value.bool true)) (Operand.tmp 35), type := 4, pos := "meaning.go:26", after := #[{ on := 14, ground := Ground.data }, { on := 18, ground := Ground.data }], guard := none }) (v := ?_) rfl (by kernel_rfl) (by kernel_rfl) (by kernel_rfl) (fun _ _ _ h => h) (Or.inl ⟨by rfl, ?_⟩) (by assumption) ?_
        rotate_left
        · intro W hSw
          obtain ⟨s0, s1, s2, s3⟩ := hSw
          go_simp
          try with_reducible rfl
        simp only [Act.put, List.setIfInBounds_toArray, List.set_cons_zero, List.set_cons_succ]
        refine wpAnyH_done (by kernel_rfl) ?_ _
        refine NoPanic.normal ?_
        go_wp2_with fail
        go_meet
        case rel => exact ⟨by rw [HGG.out], Lib.hid (((Fr.refl _ _).drew.alloc _).trans hf1)⟩

      · have hai : decide ((1000 : Int) < a.length) = false := decide_eq_false (by omega)
        by_cases hbk : 1000 < b.length
        · have hbi : (1000 : Int) < b.length := by omega
          have HGG := Lib.hid (show G = true from by rw [HG.out]; simp [hbk])
          clear hak hbk
          refine wp_region_noPanic ?_
          refine wp_region_held_drew (S := (fun W => W.cell? ⟨w.heap.size, 0, none⟩ = some (.int .i64 k) ∧ W.cell? ⟨w.heap.size, 1, none⟩ = some (.int .i64 n) ∧ W.cell? ⟨w.heap.size, 2, none⟩ = some (.slice aA A.length cA) ∧ W.cell? ⟨w.heap.size, 3, none⟩ = some (.slice aB B.length cB))) (by kernel_rfl) (H4.out _ (Fr.refl _ _).drew) (fun hHeld => ?_)
          refine wpAnyH_take (i := 0) (oi := { dst := some 17, op := Op.load 24 (Operand.tmp 4), type := 24, pos := "meaning.go:26", after := #[], guard := none }) (v := ?_) rfl (by kernel_rfl) (by kernel_rfl) (by kernel_rfl) (fun _ _ _ h => h) (Or.inl ⟨by rfl, ?_⟩) (by assumption) ?_
          rotate_left
          · intro W hSw
            obtain ⟨s0, s1, s2, s3⟩ := hSw
            go_simp
            try with_reducible rfl
          simp only [Act.put, List.setIfInBounds_toArray, List.set_cons_zero, List.set_cons_succ]
          refine wpAnyH_take (i := 1) (oi := { dst := some 18, op := Op.move (Operand.tmp 3), type := 37, pos := "meaning.go:26", after := #[], guard := none }) (v := ?_) rfl (by kernel_rfl) (by kernel_rfl) (by kernel_rfl) (fun _ _ _ h => h) (Or.inl ⟨by rfl, ?_⟩) (by assumption) ?_
          rotate_left
          · intro W hSw
            obtain ⟨s0, s1, s2, s3⟩ := hSw
            go_simp
            try with_reducible rfl
          simp only [Act.put, List.setIfInBounds_toArray, List.set_cons_zero, List.set_cons_succ]
          refine wpAnyH_ready (rs := [2]) (by kernel_rfl) (by simp) ?_
          refine AllReadyH.cons (o := { dst := some 19, op := Op.buildSlice 79 1 #[(0, Operand.tmp 18)], type := 79, pos := "meaning.go:26", after := #[{ on := 1, ground := Ground.data }], guard := none }) rfl (fun K hK => ?_) (AllReadyH.nil)
          go_simp
          refine hK.out _ _ (H4.out _ ((Fr.refl _ _).drew.alloc _)) (fun hHeld => ?_)
          clear hK K
          refine wpAnyH_ready (rs := [3]) (by kernel_rfl) (by simp) ?_
          refine AllReadyH.cons (o := { dst := some 20, op := Op.call { callee := Callee.value (Operand.func 41), args := #[Operand.tmp 17, Operand.const (Value.slice none 0 0), Operand.tmp 19], argTypes := #[24, 36, 79] }, type := 4, pos := "meaning.go:26", after := #[{ on := 0, ground := Ground.data }, { on := 2, ground := Ground.data }], guard := none }) rfl (fun K hK => ?_) (AllReadyH.nil)
          go_simp
          go_at_call 41
          refine (HHV.out _ (HW1.out.trans ((Fr.refl _ _).drew.alloc _)) (w.heap.size + 1) (row_at _ #[.slice ca cuts.length cc] _ rfl _ (by simp) 37 (0, 0))).mono ?_
          rintro e1 w1 ⟨rfl, hf1⟩
          go_wp2_with fail
          refine hK.out _ _ (H4.out _ (((Fr.refl _ _).drew.alloc _).trans hf1)) (fun hHeld => ?_)
          clear hK K
          refine wpAnyH_take (i := 4) (oi := { dst := some 21, op := Op.move (Operand.tmp 20), type := 4, pos := "meaning.go:26", after := #[{ on := 3, ground := Ground.data }, { on := 3, ground := Ground.chain }], guard := none }) (v := ?_) rfl (by kernel_rfl) (by kernel_rfl) (by kernel_rfl) (fun _ _ _ h => h) (Or.inl ⟨by rfl, ?_⟩) (by assumption) ?_
          rotate_left
          · intro W hSw
            obtain ⟨s0, s1, s2, s3⟩ := hSw
            go_simp
            try with_reducible rfl
          simp only [Act.put, List.setIfInBounds_toArray, List.set_cons_zero, List.set_cons_succ]
          refine wpAnyH_take (i := 5) (oi := { dst := some 22, op := Op.move (Operand.tmp 1), type := 22, pos := "meaning.go:26", after := #[{ on := 4, ground := Ground.guard }], guard := some (4, false) }) (v := ?_) rfl (by kernel_rfl) (by kernel_rfl) (by kernel_rfl) (fun _ _ _ h => h) (Or.inl ⟨by rfl, ?_⟩) (by assumption) ?_
          rotate_left
          · intro W hSw
            obtain ⟨s0, s1, s2, s3⟩ := hSw
            go_simp
            try with_reducible rfl
          simp only [Act.put, List.setIfInBounds_toArray, List.set_cons_zero, List.set_cons_succ]
          refine wpAnyH_take (i := 6) (oi := { dst := some 23, op := Op.call { callee := Callee.builtin Builtin.len, args := #[Operand.tmp 22], argTypes := #[22] }, type := 3, pos := "meaning.go:26", after := #[{ on := 5, ground := Ground.data }, { on := 4, ground := Ground.guard }], guard := some (4, false) }) (v := ?_) rfl (by kernel_rfl) (by kernel_rfl) (by kernel_rfl) (fun _ _ _ h => h) (Or.inl ⟨by rfl, ?_⟩) (by assumption) ?_
          rotate_left
          · intro W hSw
            obtain ⟨s0, s1, s2, s3⟩ := hSw
            go_simp
            try with_reducible rfl
          simp only [Act.put, List.setIfInBounds_toArray, List.set_cons_zero, List.set_cons_succ]
          refine wpAnyH_take (i := 7) (oi := { dst := some 24, op := Op.binOp BinOp.gtr 3 (Operand.tmp 23) (Operand.const (Value.int IntKind.i64 1000)) 3, type := 4, pos := "meaning.go:26", after := #[{ on := 6, ground := Ground.data }, { on := 4, ground := Ground.guard }], guard := some (4, false) }) (v := ?_) rfl (by kernel_rfl) (by kernel_rfl) (by kernel_rfl) (fun _ _ _ h => h) (Or.inl ⟨by rfl, ?_⟩) (by assumption) ?_
          rotate_left
          · intro W hSw
            obtain ⟨s0, s1, s2, s3⟩ := hSw
            go_simp
            try with_reducible rfl
          simp only [Act.put, List.setIfInBounds_toArray, List.set_cons_zero, List.set_cons_succ]
          refine wpAnyH_take (i := 8) (oi := { dst := some 25, op := Op.pick (Operand.tmp 21) (Operand.const (Value.bool true)) (Operand.tmp 24), type := 4, pos := "meaning.go:26", after := #[{ on := 4, ground := Ground.data }, { on := 7, ground := Ground.data }], guard := none }) (v := ?_) rfl (by kernel_rfl) (by kernel_rfl) (by kernel_rfl) (fun _ _ _ h => h) (Or.inl ⟨by rfl, ?_⟩) (by assumption) ?_
          rotate_left
          · intro W hSw
            obtain ⟨s0, s1, s2, s3⟩ := hSw
            go_simp
            try with_reducible rfl
          simp only [Act.put, List.setIfInBounds_toArray, List.set_cons_zero, List.set_cons_succ]
          refine wpAnyH_take (i := 9) (oi := { dst := some 26, op := Op.move (Operand.tmp 25), type := 4, pos := "meaning.go:26", after := #[{ on := 8, ground := Ground.data }, { on := 4, ground := Ground.chain }], guard := none }) (v := ?_) rfl (by kernel_rfl) (by kernel_rfl) (by kernel_rfl) (fun _ _ _ h => h) (Or.inl ⟨by rfl, ?_⟩) (by assumption) ?_
          rotate_left
          · intro W hSw
            obtain ⟨s0, s1, s2, s3⟩ := hSw
            go_simp
            try with_reducible rfl
          simp only [Act.put, List.setIfInBounds_toArray, List.set_cons_zero, List.set_cons_succ]
          refine wpAnyH_take (i := 10) (oi := { dst := some 27, op := Op.move (Operand.tmp 2), type := 22, pos := "meaning.go:26", after := #[{ on := 9, ground := Ground.guard }], guard := some (9, false) }) (v := ?_) rfl (by kernel_rfl) (by kernel_rfl) (by kernel_rfl) (fun _ _ _ h => h) (Or.inl ⟨by rfl, ?_⟩) (by assumption) ?_
          rotate_left
          · intro W hSw
            obtain ⟨s0, s1, s2, s3⟩ := hSw
            go_simp
            try with_reducible rfl
          simp only [Act.put, List.setIfInBounds_toArray, List.set_cons_zero, List.set_cons_succ]
          refine wpAnyH_take (i := 11) (oi := { dst := some 28, op := Op.call { callee := Callee.builtin Builtin.len, args := #[Operand.tmp 27], argTypes := #[22] }, type := 3, pos := "meaning.go:26", after := #[{ on := 10, ground := Ground.data }, { on := 9, ground := Ground.guard }], guard := some (9, false) }) (v := ?_) rfl (by kernel_rfl) (by kernel_rfl) (by kernel_rfl) (fun _ _ _ h => h) (Or.inl ⟨by rfl, ?_⟩) (by assumption) ?_
          rotate_left
          · intro W hSw
            obtain ⟨s0, s1, s2, s3⟩ := hSw
            go_simp
            try with_reducible rfl
          simp only [Act.put, List.setIfInBounds_toArray, List.set_cons_zero, List.set_cons_succ]
          refine wpAnyH_take (i := 12) (oi := { dst := some 29, op := Op.binOp BinOp.gtr 3 (Operand.tmp 28) (Operand.const (Value.int IntKind.i64 1000)) 3, type := 4, pos := "meaning.go:26", after := #[{ on := 11, ground := Ground.data }, { on := 9, ground := Ground.guard }], guard := some (9, false) }) (v := ?_) rfl (by kernel_rfl) (by kernel_rfl) (by kernel_rfl) (fun _ _ _ h => h) (Or.inl ⟨by rfl, ?_⟩) (by assumption) ?_
          rotate_left
          · intro W hSw
            obtain ⟨s0, s1, s2, s3⟩ := hSw
            go_simp
            try with_reducible rfl
          simp only [Act.put, List.setIfInBounds_toArray, List.set_cons_zero, List.set_cons_succ]
          refine wpAnyH_take (i := 13) (oi := { dst := some 30, op := Op.pick (Operand.tmp 26) (Operand.const (Value.bool true)) (Operand.tmp 29), type := 4, pos := "meaning.go:26", after := #[{ on := 9, ground := Ground.data }, { on := 12, ground := Ground.data }], guard := none }) (v := ?_) rfl (by kernel_rfl) (by kernel_rfl) (by kernel_rfl) (fun _ _ _ h => h) (Or.inl ⟨by rfl, ?_⟩) (by assumption) ?_
          rotate_left
          · intro W hSw
            obtain ⟨s0, s1, s2, s3⟩ := hSw
            go_simp
            try with_reducible rfl
          simp only [Act.put, List.setIfInBounds_toArray, List.set_cons_zero, List.set_cons_succ]
          refine wpAnyH_take (i := 14) (oi := { dst := some 31, op := Op.move (Operand.tmp 30), type := 4, pos := "meaning.go:26", after := #[{ on := 13, ground := Ground.data }, { on := 9, ground := Ground.chain }], guard := none }) (v := ?_) rfl (by kernel_rfl) (by kernel_rfl) (by kernel_rfl) (fun _ _ _ h => h) (Or.inl ⟨by rfl, ?_⟩) (by assumption) ?_
          rotate_left
          · intro W hSw
            obtain ⟨s0, s1, s2, s3⟩ := hSw
            go_simp
            try with_reducible rfl
          simp only [Act.put, List.setIfInBounds_toArray, List.set_cons_zero, List.set_cons_succ]
          refine wpAnyH_take (i := 15) (oi := { dst := some 32, op := Op.load 24 (Operand.tmp 4), type := 24, pos := "meaning.go:26", after := #[{ on := 14, ground := Ground.guard }], guard := some (14, false) }) (v := undef) rfl (by kernel_rfl) (by kernel_rfl) (by kernel_rfl) (fun _ _ _ h => h) (Or.inr ⟨by rfl, rfl⟩) (by assumption) ?_
          simp only [Act.put, List.setIfInBounds_toArray, List.set_cons_zero, List.set_cons_succ]
          refine wpAnyH_take (i := 16) (oi := { dst := some 33, op := Op.makeSlice 36 (Operand.const (Value.int IntKind.i64 1)) (Operand.const (Value.int IntKind.i64 1)), type := 36, pos := "meaning.go:26", after := #[{ on := 14, ground := Ground.guard }], guard := some (14, false) }) (v := undef) rfl (by kernel_rfl) (by kernel_rfl) (by kernel_rfl) (fun _ _ _ h => h) (Or.inr ⟨by rfl, rfl⟩) (by assumption) ?_
          simp only [Act.put, List.setIfInBounds_toArray, List.set_cons_zero, List.set_cons_succ]
          refine wpAnyH_take (i := 17) (oi := { dst := some 34, op := Op.call { callee := Callee.value (Operand.func 44), args := #[Operand.tmp 32, Operand.tmp 33], argTypes := #[24, 36] }, type := 4, pos := "meaning.go:26", after := #[{ on := 15, ground := Ground.data }, { on := 16, ground := Ground.data }, { on := 14, ground := Ground.chain }, { on := 14, ground := Ground.guard }], guard := some (14, false) }) (v := undef) rfl (by kernel_rfl) (by kernel_rfl) (by kernel_rfl) (fun _ _ _ h => h) (Or.inr ⟨by rfl, rfl⟩) (by assumption) ?_
          simp only [Act.put, List.setIfInBounds_toArray, List.set_cons_zero, List.set_cons_succ]
          refine wpAnyH_take (i := 18) (oi := { dst := some 35, op := Op.unOp UnOp.not 4 (Operand.tmp 34), type := 4, pos := "meaning.go:26", after := #[{ on := 17, ground := Ground.data }, { on := 14, ground := Ground.guard }], guard := some (14, false) }) (v := undef) rfl (by kernel_rfl) (by kernel_rfl) (by kernel_rfl) (fun _ _ _ h => h) (Or.inr ⟨by rfl, rfl⟩) (by assumption) ?_
          simp only [Act.put, List.setIfInBounds_toArray, List.set_cons_zero, List.set_cons_succ]
          refine wpAnyH_take (i := 19) (oi := { dst := some 36, op := Op.pick (Operand.tmp 31) (Operand.const (Value.bool true)) (Operand.tmp 35), type := 4, pos := "meaning.go:26", after := #[{ on := 14, ground := Ground.data }, { on := 18, ground := Ground.data }], guard := none }) (v := ?_) rfl (by kernel_rfl) (by kernel_rfl) (by kernel_rfl) (fun _ _ _ h => h) (Or.inl ⟨by rfl, ?_⟩) (by assumption) ?_
          rotate_left
          · intro W hSw
            obtain ⟨s0, s1, s2, s3⟩ := hSw
            go_simp
            try with_reducible rfl
          simp only [Act.put, List.setIfInBounds_toArray, List.set_cons_zero, List.set_cons_succ]
          refine wpAnyH_done (by kernel_rfl) ?_ _
          refine NoPanic.normal ?_
          go_wp2_with fail
          go_meet
          case rel => exact ⟨by rw [HGG.out], Lib.hid (((Fr.refl _ _).drew.alloc _).trans hf1)⟩

        · have hbi : decide ((1000 : Int) < b.length) = false := decide_eq_false (by omega)
          have HGG := Lib.hid (show G = !ft from by rw [HG.out]; simp [hak, hbk])
          clear hak hbk
          refine wp_region_noPanic ?_
          refine wp_region_held_drew (S := (fun W => W.cell? ⟨w.heap.size, 0, none⟩ = some (.int .i64 k) ∧ W.cell? ⟨w.heap.size, 1, none⟩ = some (.int .i64 n) ∧ W.cell? ⟨w.heap.size, 2, none⟩ = some (.slice aA A.length cA) ∧ W.cell? ⟨w.heap.size, 3, none⟩ = some (.slice aB B.length cB))) (by kernel_rfl) (H4.out _ (Fr.refl _ _).drew) (fun hHeld => ?_)
          refine wpAnyH_take (i := 0) (oi := { dst := some 17, op := Op.load 24 (Operand.tmp 4), type := 24, pos := "meaning.go:26", after := #[], guard := none }) (v := ?_) rfl (by kernel_rfl) (by kernel_rfl) (by kernel_rfl) (fun _ _ _ h => h) (Or.inl ⟨by rfl, ?_⟩) (by assumption) ?_
          rotate_left
          · intro W hSw
            obtain ⟨s0, s1, s2, s3⟩ := hSw
            go_simp
            try with_reducible rfl
          simp only [Act.put, List.setIfInBounds_toArray, List.set_cons_zero, List.set_cons_succ]
          refine wpAnyH_take (i := 1) (oi := { dst := some 18, op := Op.move (Operand.tmp 3), type := 37, pos := "meaning.go:26", after := #[], guard := none }) (v := ?_) rfl (by kernel_rfl) (by kernel_rfl) (by kernel_rfl) (fun _ _ _ h => h) (Or.inl ⟨by rfl, ?_⟩) (by assumption) ?_
          rotate_left
          · intro W hSw
            obtain ⟨s0, s1, s2, s3⟩ := hSw
            go_simp
            try with_reducible rfl
          simp only [Act.put, List.setIfInBounds_toArray, List.set_cons_zero, List.set_cons_succ]
          refine wpAnyH_ready (rs := [2]) (by kernel_rfl) (by simp) ?_
          refine AllReadyH.cons (o := { dst := some 19, op := Op.buildSlice 79 1 #[(0, Operand.tmp 18)], type := 79, pos := "meaning.go:26", after := #[{ on := 1, ground := Ground.data }], guard := none }) rfl (fun K hK => ?_) (AllReadyH.nil)
          go_simp
          refine hK.out _ _ (H4.out _ ((Fr.refl _ _).drew.alloc _)) (fun hHeld => ?_)
          clear hK K
          refine wpAnyH_ready (rs := [3]) (by kernel_rfl) (by simp) ?_
          refine AllReadyH.cons (o := { dst := some 20, op := Op.call { callee := Callee.value (Operand.func 41), args := #[Operand.tmp 17, Operand.const (Value.slice none 0 0), Operand.tmp 19], argTypes := #[24, 36, 79] }, type := 4, pos := "meaning.go:26", after := #[{ on := 0, ground := Ground.data }, { on := 2, ground := Ground.data }], guard := none }) rfl (fun K hK => ?_) (AllReadyH.nil)
          go_simp
          go_at_call 41
          refine (HHV.out _ (HW1.out.trans ((Fr.refl _ _).drew.alloc _)) (w.heap.size + 1) (row_at _ #[.slice ca cuts.length cc] _ rfl _ (by simp) 37 (0, 0))).mono ?_
          rintro e1 w1 ⟨rfl, hf1⟩
          go_wp2_with fail
          refine hK.out _ _ (H4.out _ (((Fr.refl _ _).drew.alloc _).trans hf1)) (fun hHeld => ?_)
          clear hK K
          refine wpAnyH_take (i := 4) (oi := { dst := some 21, op := Op.move (Operand.tmp 20), type := 4, pos := "meaning.go:26", after := #[{ on := 3, ground := Ground.data }, { on := 3, ground := Ground.chain }], guard := none }) (v := ?_) rfl (by kernel_rfl) (by kernel_rfl) (by kernel_rfl) (fun _ _ _ h => h) (Or.inl ⟨by rfl, ?_⟩) (by assumption) ?_
          rotate_left
          · intro W hSw
            obtain ⟨s0, s1, s2, s3⟩ := hSw
            go_simp
            try with_reducible rfl
          simp only [Act.put, List.setIfInBounds_toArray, List.set_cons_zero, List.set_cons_succ]
          refine wpAnyH_take (i := 5) (oi := { dst := some 22, op := Op.move (Operand.tmp 1), type := 22, pos := "meaning.go:26", after := #[{ on := 4, ground := Ground.guard }], guard := some (4, false) }) (v := ?_) rfl (by kernel_rfl) (by kernel_rfl) (by kernel_rfl) (fun _ _ _ h => h) (Or.inl ⟨by rfl, ?_⟩) (by assumption) ?_
          rotate_left
          · intro W hSw
            obtain ⟨s0, s1, s2, s3⟩ := hSw
            go_simp
            try with_reducible rfl
          simp only [Act.put, List.setIfInBounds_toArray, List.set_cons_zero, List.set_cons_succ]
          refine wpAnyH_take (i := 6) (oi := { dst := some 23, op := Op.call { callee := Callee.builtin Builtin.len, args := #[Operand.tmp 22], argTypes := #[22] }, type := 3, pos := "meaning.go:26", after := #[{ on := 5, ground := Ground.data }, { on := 4, ground := Ground.guard }], guard := some (4, false) }) (v := ?_) rfl (by kernel_rfl) (by kernel_rfl) (by kernel_rfl) (fun _ _ _ h => h) (Or.inl ⟨by rfl, ?_⟩) (by assumption) ?_
          rotate_left
          · intro W hSw
            obtain ⟨s0, s1, s2, s3⟩ := hSw
            go_simp
            try with_reducible rfl
          simp only [Act.put, List.setIfInBounds_toArray, List.set_cons_zero, List.set_cons_succ]
          refine wpAnyH_take (i := 7) (oi := { dst := some 24, op := Op.binOp BinOp.gtr 3 (Operand.tmp 23) (Operand.const (Value.int IntKind.i64 1000)) 3, type := 4, pos := "meaning.go:26", after := #[{ on := 6, ground := Ground.data }, { on := 4, ground := Ground.guard }], guard := some (4, false) }) (v := ?_) rfl (by kernel_rfl) (by kernel_rfl) (by kernel_rfl) (fun _ _ _ h => h) (Or.inl ⟨by rfl, ?_⟩) (by assumption) ?_
          rotate_left
          · intro W hSw
            obtain ⟨s0, s1, s2, s3⟩ := hSw
            go_simp
            try with_reducible rfl
          simp only [Act.put, List.setIfInBounds_toArray, List.set_cons_zero, List.set_cons_succ]
          refine wpAnyH_take (i := 8) (oi := { dst := some 25, op := Op.pick (Operand.tmp 21) (Operand.const (Value.bool true)) (Operand.tmp 24), type := 4, pos := "meaning.go:26", after := #[{ on := 4, ground := Ground.data }, { on := 7, ground := Ground.data }], guard := none }) (v := ?_) rfl (by kernel_rfl) (by kernel_rfl) (by kernel_rfl) (fun _ _ _ h => h) (Or.inl ⟨by rfl, ?_⟩) (by assumption) ?_
          rotate_left
          · intro W hSw
            obtain ⟨s0, s1, s2, s3⟩ := hSw
            go_simp
            try with_reducible rfl
          simp only [Act.put, List.setIfInBounds_toArray, List.set_cons_zero, List.set_cons_succ]
          refine wpAnyH_take (i := 9) (oi := { dst := some 26, op := Op.move (Operand.tmp 25), type := 4, pos := "meaning.go:26", after := #[{ on := 8, ground := Ground.data }, { on := 4, ground := Ground.chain }], guard := none }) (v := ?_) rfl (by kernel_rfl) (by kernel_rfl) (by kernel_rfl) (fun _ _ _ h => h) (Or.inl ⟨by rfl, ?_⟩) (by assumption) ?_
          rotate_left
          · intro W hSw
            obtain ⟨s0, s1, s2, s3⟩ := hSw
            go_simp
            try with_reducible rfl
          simp only [Act.put, List.setIfInBounds_toArray, List.set_cons_zero, List.set_cons_succ]
          refine wpAnyH_take (i := 10) (oi := { dst := some 27, op := Op.move (Operand.tmp 2), type := 22, pos := "meaning.go:26", after := #[{ on := 9, ground := Ground.guard }], guard := some (9, false) }) (v := ?_) rfl (by kernel_rfl) (by kernel_rfl) (by kernel_rfl) (fun _ _ _ h => h) (Or.inl ⟨by rfl, ?_⟩) (by assumption) ?_
          rotate_left
          · intro W hSw
            obtain ⟨s0, s1, s2, s3⟩ := hSw
            go_simp
            try with_reducible rfl
          simp only [Act.put, List.setIfInBounds_toArray, List.set_cons_zero, List.set_cons_succ]
          refine wpAnyH_take (i := 11) (oi := { dst := some 28, op := Op.call { callee := Callee.builtin Builtin.len, args := #[Operand.tmp 27], argTypes := #[22] }, type := 3, pos := "meaning.go:26", after := #[{ on := 10, ground := Ground.data }, { on := 9, ground := Ground.guard }], guard := some (9, false) }) (v := ?_) rfl (by kernel_rfl) (by kernel_rfl) (by kernel_rfl) (fun _ _ _ h => h) (Or.inl ⟨by rfl, ?_⟩) (by assumption) ?_
          rotate_left
          · intro W hSw
            obtain ⟨s0, s1, s2, s3⟩ := hSw
            go_simp
            try with_reducible rfl
          simp only [Act.put, List.setIfInBounds_toArray, List.set_cons_zero, List.set_cons_succ]
          refine wpAnyH_take (i := 12) (oi := { dst := some 29, op := Op.binOp BinOp.gtr 3 (Operand.tmp 28) (Operand.const (Value.int IntKind.i64 1000)) 3, type := 4, pos := "meaning.go:26", after := #[{ on := 11, ground := Ground.data }, { on := 9, ground := Ground.guard }], guard := some (9, false) }) (v := ?_) rfl (by kernel_rfl) (by kernel_rfl) (by kernel_rfl) (fun _ _ _ h => h) (Or.inl ⟨by rfl, ?_⟩) (by assumption) ?_
          rotate_left
          · intro W hSw
            obtain ⟨s0, s1, s2, s3⟩ := hSw
            go_simp
            try with_reducible rfl
          simp only [Act.put, List.setIfInBounds_toArray, List.set_cons_zero, List.set_cons_succ]
          refine wpAnyH_take (i := 13) (oi := { dst := some 30, op := Op.pick (Operand.tmp 26) (Operand.const (Value.bool true)) (Operand.tmp 29), type := 4, pos := "meaning.go:26", after := #[{ on := 9, ground := Ground.data }, { on := 12, ground := Ground.data }], guard := none }) (v := ?_) rfl (by kernel_rfl) (by kernel_rfl) (by kernel_rfl) (fun _ _ _ h => h) (Or.inl ⟨by rfl, ?_⟩) (by assumption) ?_
          rotate_left
          · intro W hSw
            obtain ⟨s0, s1, s2, s3⟩ := hSw
            go_simp
            try with_reducible rfl
          simp only [Act.put, List.setIfInBounds_toArray, List.set_cons_zero, List.set_cons_succ]
          refine wpAnyH_take (i := 14) (oi := { dst := some 31, op := Op.move (Operand.tmp 30), type := 4, pos := "meaning.go:26", after := #[{ on := 13, ground := Ground.data }, { on := 9, ground := Ground.chain }], guard := none }) (v := ?_) rfl (by kernel_rfl) (by kernel_rfl) (by kernel_rfl) (fun _ _ _ h => h) (Or.inl ⟨by rfl, ?_⟩) (by assumption) ?_
          rotate_left
          · intro W hSw
            obtain ⟨s0, s1, s2, s3⟩ := hSw
            go_simp
            try with_reducible rfl
          simp only [Act.put, List.setIfInBounds_toArray, List.set_cons_zero, List.set_cons_succ]
          refine wpAnyH_take (i := 15) (oi := { dst := some 32, op := Op.load 24 (Operand.tmp 4), type := 24, pos := "meaning.go:26", after := #[{ on := 14, ground := Ground.guard }], guard := some (14, false) }) (v := ?_) rfl (by kernel_rfl) (by kernel_rfl) (by kernel_rfl) (fun _ _ _ h => h) (Or.inl ⟨by rfl, ?_⟩) (by assumption) ?_
          rotate_left
          · intro W hSw
            obtain ⟨s0, s1, s2, s3⟩ := hSw
            go_simp
            try with_reducible rfl
          simp only [Act.put, List.setIfInBounds_toArray, List.set_cons_zero, List.set_cons_succ]
          refine wpAnyH_ready (rs := [16]) (by kernel_rfl) (by simp) ?_
          refine AllReadyH.cons (o := { dst := some 33, op := Op.makeSlice 36 (Operand.const (Value.int IntKind.i64 1)) (Operand.const (Value.int IntKind.i64 1)), type := 36, pos := "meaning.go:26", after := #[{ on := 14, ground := Ground.guard }], guard := some (14, false) }) rfl (fun K hK => ?_) (AllReadyH.nil)
          go_simp
          refine hK.out _ _ (H4.out _ ((((Fr.refl _ _).drew.alloc _).trans hf1).alloc _)) (fun hHeld => ?_)
          clear hK K
          refine wpAnyH_ready (rs := [17]) (by kernel_rfl) (by simp) ?_
          refine AllReadyH.cons (o := { dst := some 34, op := Op.call { callee := Callee.value (Operand.func 44), args := #[Operand.tmp 32, Operand.tmp 33], argTypes := #[24, 36] }, type := 4, pos := "meaning.go:26", after := #[{ on := 15, ground := Ground.data }, { on := 16, ground := Ground.data }, { on := 14, ground := Ground.chain }, { on := 14, ground := Ground.guard }], guard := some (14, false) }) rfl (fun K hK => ?_) (AllReadyH.nil)
          go_simp
          go_at_call 44
          refine (HFT.out _ (HW1.out.trans ((((Fr.refl _ _).drew.alloc _).trans hf1).alloc _)) _ _).mono ?_
          rintro e2 w2 ⟨rfl, hf2⟩
          go_wp2_with fail
          refine hK.out _ _ (H4.out _ (((((Fr.refl _ _).drew.alloc _).trans hf1).alloc _).trans hf2)) (fun hHeld => ?_)
          clear hK K
          refine wpAnyH_take (i := 18) (oi := { dst := some 35, op := Op.unOp UnOp.not 4 (Operand.tmp 34), type := 4, pos := "meaning.go:26", after := #[{ on := 17, ground := Ground.data }, { on := 14, ground := Ground.guard }], guard := some (14, false) }) (v := ?_) rfl (by kernel_rfl) (by kernel_rfl) (by kernel_rfl) (fun _ _ _ h => h) (Or.inl ⟨by rfl, ?_⟩) (by assumption) ?_
          rotate_left
          · intro W hSw
            obtain ⟨s0, s1, s2, s3⟩ := hSw
            go_simp
            try with_reducible rfl
          simp only [Act.put, List.setIfInBounds_toArray, List.set_cons_zero, List.set_cons_succ]
          refine wpAnyH_take (i := 19) (oi := { dst := some 36, op := Op.pick (Operand.tmp 31) (Operand.const (Value.bool true)) (Operand.tmp 35), type := 4, pos := "meaning.go:26", after := #[{ on := 14, ground := Ground.data }, { on := 18, ground := Ground.data }], guard := none }) (v := ?_) rfl (by kernel_rfl) (by kernel_rfl) (by kernel_rfl) (fun _ _ _ h => h) (Or.inl ⟨by rfl, ?_⟩) (by assumption) ?_
          rotate_left
          · intro W hSw
            obtain ⟨s0, s1, s2, s3⟩ := hSw
            go_simp
            try with_reducible rfl
          simp only [Act.put, List.setIfInBounds_toArray, List.set_cons_zero, List.set_cons_succ]
          refine wpAnyH_done (by kernel_rfl) ?_ _
          refine NoPanic.normal ?_
          go_wp2_with fail
          go_meet
          case rel => exact ⟨by rw [HGG.out], Lib.hid (((((Fr.refl _ _).drew.alloc _).trans hf1).alloc _).trans hf2)⟩


  case rest =>
    obtain ⟨rfl, HF0⟩ := hcut
    generalize wc = w0 at *
    have K0 := Lib.hid (HW1.out.trans HF0.out)
    cases G with
    | true =>
      go_wp2_with (first
        | (go_at_call 42; refine (awake_any _).mono ?_; rintro e9 w9 ⟨rfl, hf9⟩))
      go_ret
      exact ⟨rfl, K0.out.trans hf9⟩
    | false =>
      have hG := HG.out
      have hh : ¬ (1000 < A.length ∨ 1000 < B.length ∨ 8 < ([] : List Strm).length ∨ (∃ s ∈ ([] : List Strm), 2000 < s.b.length) ∨ (∃ c ∈ [(ca, cuts.length, cc)], 3000 < c.2.1)) := by
        have h1 : hv = false := by cases hv; rfl; simp at hG
        have := HHD.out; rw [h1] at this; unfold heavyB at this; exact of_decide_eq_false this
      have hak : ¬ 1000 < a.length := fun h => by simp [h] at hG
      have hbk : ¬ 1000 < b.length := fun h => by simp [h] at hG
      have hfit : fitB 6 k n A B 1 = true := by rw [HFD.out]; cases ft; simp at hG; rfl
      simp only [not_or] at hh
      obtain ⟨hA1, hB1, _, _, hc3⟩ := hh
      have hcl : ¬ 3000 < cuts.length := fun h => hc3 ⟨(ca, cuts.length, cc), by simp, h⟩
      have hlA : A.length ≤ 100000000 := by omega
      have hlB : B.length ≤ 100000000 := by omega
      obtain ⟨rfl, _, hck, hfk⟩ := fit_says k n A B 1 hn hfit
      clear hG hfit hft0 hc3
      have hsay := fun x : List UInt8 => (show saysM n A B x true = (x.flatMap (becomes A B), -1, 0) from rfl)
      obtain ⟨o3, ho3⟩ : ∃ x, x = (a ++ b).flatMap (becomes A B) := ⟨_, rfl⟩
      have HT1 := Lib.hid (fun (W : World) (hW : Fr No w W) (g : Nat) (hcell : W.cell? ⟨g, 0, none⟩ = some (.slice aa a.length ac)) => told_fine n aA aB A B cA cB W (at_no HA.out hW) (at_no HB.out hW) hlA hlB hck hfk ca cc cuts (at_no HC.out hW) (by omega) g 1 aa ac a hcell (at_no HAA.out hW) (by omega) hac _ (hsay a))
      have HT2 := Lib.hid (fun (W : World) (hW : Fr No w W) (g : Nat) (hcell : W.cell? ⟨g, 0, none⟩ = some (.slice ba b.length bc)) => told_fine n aA aB A B cA cB W (at_no HA.out hW) (at_no HB.out hW) hlA hlB hck hfk ca cc cuts (at_no HC.out hW) (by omega) g 1 ba bc b hcell (at_no HBB.out hW) (by omega) hbc _ (hsay b))
      have HT3 := Lib.hid (fun (W : World) (hW : Fr No w W) (g : Nat) (x6 : Option Addr) (c6 : Nat) (hcell : W.cell? ⟨g, 0, none⟩ = some (.slice x6 (a ++ b).length c6)) (hat : At W x6 ((a ++ b).map bv)) (hle : (a ++ b).length ≤ c6) => told_fine n aA aB A B cA cB W (at_no HA.out hW) (at_no HB.out hW) hlA hlB hck hfk ca cc cuts (at_no HC.out hW) (by omega) g 1 x6 c6 (a ++ b) hcell hat (by simp; omega) hle o3 (by rw [hsay (a ++ b), ho3]))
      have HO3' := Lib.hid ho3; clear ho3
      have HCK := Lib.hid hck; have HFK := Lib.hid hfk
      clear hck hfk hsay HHV HHD HFD HG
      obtain ⟨p0, p1, p2, p3⟩ := H4.out _ HF0.out
      go_upto_region 5 with (first
        | (go_at_call 47; refine (HT2.out ((w3.alloc (.cells #[sv (a.flatMap (becomes A B)), sv [], sv [], sv [], .int .i64 (-1), .int .i64 0, .int .i64 held1, .int .i64 taken1, .int .i64 0, .int .i64 0, .int .i64 0, .bool false] 42)).alloc (.cells #[.slice ba b.length bc] 22)) ((KW3.out.alloc _).alloc _) (w3.heap.size + 1) (by simp)).mono ?_; rintro e4 w4 ⟨held2, taken2, rfl, hf4⟩
           dsimp only [gotC]
           have KW4 := Lib.hid (((KW3.out.alloc _).alloc _).trans hf4)
           have KB4 := Lib.hid ((((Fr.refl No w3).alloc (.cells #[sv (a.flatMap (becomes A B)), sv [], sv [], sv [], .int .i64 (-1), .int .i64 0, .int .i64 held1, .int .i64 taken1, .int .i64 0, .int .i64 0, .int .i64 0, .bool false] 42)).alloc (.cells #[.slice ba b.length bc] 22)).trans hf4)
           have u1 := (box_at ((((Fr.refl No _).alloc (.cells #[.slice ba b.length bc] 22)).trans hf4))).1 0
           clear hf4)
        | (go_at_call 47; refine (HT1.out _ (K0.out.alloc _) _ (World.cell?_alloc_new _ #[.slice aa a.length ac] 22 (i := 0))).mono ?_; rintro e3 w3 ⟨held1, taken1, rfl, hf3⟩
           dsimp only [gotC]
           obtain ⟨q0, q1, q2, q3⟩ := H4.out _ ((HF0.out.alloc (.cells #[.slice aa a.length ac] 22)).trans hf3)
           have KW3 := Lib.hid ((K0.out.alloc (.cells #[.slice aa a.length ac] 22)).trans hf3)
           have KP3 := Lib.hid ((HF0.out.alloc (.cells #[.slice aa a.length ac] 22)).trans hf3)
           have z3 : w.heap.size < w3.heap.size := World.block_lt_of_cell? _ _ q0
           clear hf3))
      obtain ⟨wB, hwB⟩ : ∃ x, x = (w4.alloc (.cells #[sv (b.flatMap (becomes A B)), sv [], sv [], sv [], .int .i64 (-1), .int .i64 0, .int .i64 held2, .int .i64 taken2, .int .i64 0, .int .i64 0, .int .i64 0, .bool false] 42)) := ⟨_, rfl⟩
      rw [← hwB]
      have KWB := Lib.hid (show Fr No w wB from by rw [hwB]; exact KW4.out.alloc _)
      have HB4 := Lib.hid (fun (W : World) (f : Fr No wB W) => H4.out W ((KP3.out.trans KB4.out).trans ((show Fr No w4 wB from by rw [hwB]; exact (Fr.refl No w4).alloc _).trans f)))
      have U1 := Lib.hid (fun (W : World) (f : Fr No wB W) => (show W.cell? ⟨w3.heap.size, 0, none⟩ = some (sv (a.flatMap (becomes A B))) from (((show Fr No w4 wB from by rw [hwB]; exact (Fr.refl No w4).alloc _).trans f).at.1 w3.heap.size 0 (World.block_lt_of_cell? w4 _ u1)).trans u1))
      have U2 := Lib.hid (fun (W : World) (f : Fr No wB W) => (show W.cell? ⟨w4.heap.size, 0, none⟩ = some (sv (b.flatMap (becomes A B))) from by subst hwB; exact (box_at f).1 0))
      clear hwB
      go_cut [13, 14] from 17 (fun s13 s14 wx => s14 = .bool true ∧ ∃ gA, s13 = .pointer (some ⟨gA, 0, none⟩) ∧ Hid (wx.cell? ⟨gA, 0, none⟩ = some (sv o3)) ∧ Hid (Fr No wB wx))
      case first =>
        refine wp_region_noPanic ?_
        refine wp_region_held_drew (S := (fun W => W.cell? ⟨w.heap.size, 0, none⟩ = some (.int .i64 6) ∧ W.cell? ⟨w.heap.size, 1, none⟩ = some (.int .i64 n) ∧ W.cell? ⟨w.heap.size, 2, none⟩ = some (.slice aA A.length cA) ∧ W.cell? ⟨w.heap.size, 3, none⟩ = some (.slice aB B.length cB))) (by kernel_rfl) (HB4.out _ (Fr.refl _ _).drew) (fun hHeld => ?_)
        refine wpAnyH_take (i := 0) (oi := { dst := some 55, op := Op.load 24 (Operand.tmp 4), type := 24, pos := "meaning.go:31", after := #[], guard := none }) (v := ?_) rfl (by kernel_rfl) (by kernel_rfl) (by kernel_rfl) (fun _ _ _ h => h) (Or.inl ⟨by rfl, ?_⟩) (by assumption) ?_
        rotate_left
        · intro W hSw
          obtain ⟨s0, s1, s2, s3⟩ := hSw
          go_simp
          try with_reducible rfl
        simp only [Act.put, List.setIfInBounds_toArray, List.set_cons_zero, List.set_cons_succ]
        refine wpAnyH_take (i := 1) (oi := { dst := some 56, op := Op.move (Operand.tmp 3), type := 37, pos := "meaning.go:31", after := #[], guard := none }) (v := ?_) rfl (by kernel_rfl) (by kernel_rfl) (by kernel_rfl) (fun _ _ _ h => h) (Or.inl ⟨by rfl, ?_⟩) (by assumption) ?_
        rotate_left
        · intro W hSw
          obtain ⟨s0, s1, s2, s3⟩ := hSw
          go_simp
          try with_reducible rfl
        simp only [Act.put, List.setIfInBounds_toArray, List.set_cons_zero, List.set_cons_succ]
        refine wpAnyH_take (i := 3) (oi := { dst := some 58, op := Op.move (Operand.tmp 1), type := 22, pos := "meaning.go:31", after := #[], guard := none }) (v := ?_) rfl (by kernel_rfl) (by kernel_rfl) (by kernel_rfl) (fun _ _ _ h => h) (Or.inl ⟨by rfl, ?_⟩) (by assumption) ?_
        rotate_left
        · intro W hSw
          obtain ⟨s0, s1, s2, s3⟩ := hSw
          go_simp
          try with_reducible rfl
        simp only [Act.put, List.setIfInBounds_toArray, List.set_cons_zero, List.set_cons_succ]
        refine wpAnyH_take (i := 5) (oi := { dst := some 60, op := Op.move (Operand.tmp 2), type := 22, pos := "meaning.go:31", after := #[], guard := none }) (v := ?_) rfl (by kernel_rfl) (by kernel_rfl) (by kernel_rfl) (fun _ _ _ h => h) (Or.inl ⟨by rfl, ?_⟩) (by assumption) ?_
        rotate_left
        · intro W hSw
          obtain ⟨s0, s1, s2, s3⟩ := hSw
          go_simp
          try with_reducible rfl
        simp only [Act.put, List.setIfInBounds_toArray, List.set_cons_zero, List.set_cons_succ]
        refine wpAnyH_ready (rs := [2, 12]) (by kernel_rfl) (by simp) ?_
        refine AllReadyH.cons (o := { dst := some 57, op := Op.buildSlice 22 0 #[], type := 22, pos := "meaning.go:31", after := #[], guard := none }) rfl (fun K hK => ?_) (AllReadyH.cons (o := { dst := some 13, op := Op.alloc 42, type := 0, pos := "meaning.go:31", after := #[], guard := none }) rfl (fun K hK => ?_) (AllReadyH.nil))
        · go_simp
          refine hK.out _ _ (HB4.out _ (((Fr.refl No wB).drew).alloc _)) (fun hHeld => ?_)
          clear hK K
          refine wpAnyH_ready (rs := [4, 12]) (by kernel_rfl) (by simp) ?_
          refine AllReadyH.cons (o := { dst := some 59, op := Op.call { callee := Callee.builtin Builtin.append, args := #[Operand.tmp 57, Operand.tmp 58], argTypes := #[22, 22] }, type := 22, pos := "meaning.go:31", after := #[{ on := 2, ground := Ground.data }, { on := 3, ground := Ground.data }], guard := none }) rfl (fun K hK => ?_) (AllReadyH.cons (o := { dst := some 13, op := Op.alloc 42, type := 0, pos := "meaning.go:31", after := #[], guard := none }) rfl (fun K hK => ?_) (AllReadyH.nil))
          · refine step_append_sl rfl (.tmp 57) (.tmp 58) 22 22 rfl 5 j0 (.int .u8 0) 1 1 Try.underlying22 hj jz0 jz1 jz2 rfl (by decide) (.slice (some ⟨wB.heap.size, 0, none⟩) 0 0) 0 [] rfl (own_of_heap 1 (heap_alloc_at wB.drew _ _ (by simp))) _ a.length (a.map bv) rfl (src_slice Try.underlying22 (by simp) (at_no HAA.out (KWB.out.trans (((Fr.refl No wB).drew).alloc _))) (by simp [Value.oneCell'])) (by omega) (by omega) ?_
            intro v5 w5 hown5 hfr5 hblk5
            have HO5 := Lib.hid hown5
            have F5 := Lib.hid (show Fr No wB w5 from (((Fr.refl No wB).drew).alloc _).step hfr5 (fun x o hx h => by have h' : some (wB.heap.size) = some x := h; injection h' with h'; omega))
            have hb5 : ∀ x, v5.ownBlock = some x → wB.heap.size ≤ x := fun x e => by
              rcases hblk5 with h | h
              · rw [h] at e; have h' : some (wB.heap.size) = some x := e; injection h' with h'; omega
              · rw [h] at e; injection e with e; (try simp at e); omega
            have hs5 := F5.out.size
            clear hown5 hfr5 hblk5
            refine hK.out _ _ (HB4.out _ F5.out) (fun hHeld => ?_)
            clear hK K
            refine wpAnyH_ready (rs := [6, 12]) (by kernel_rfl) (by simp) ?_
            refine AllReadyH.cons (o := { dst := some 61, op := Op.call { callee := Callee.builtin Builtin.append, args := #[Operand.tmp 59, Operand.tmp 60], argTypes := #[22, 22] }, type := 22, pos := "meaning.go:31", after := #[{ on := 4, ground := Ground.data }, { on := 5, ground := Ground.data }, { on := 4, ground := Ground.chain }], guard := none }) rfl (fun K hK => ?_) (AllReadyH.cons (o := { dst := some 13, op := Op.alloc 42, type := 0, pos := "meaning.go:31", after := #[], guard := none }) rfl (fun K hK => ?_) (AllReadyH.nil))
            · refine step_append_sl rfl (.tmp 59) (.tmp 60) 22 22 rfl 5 j0 (.int .u8 0) 1 1 Try.underlying22 hj jz0 jz1 jz2 rfl (by decide) v5 (0 + a.length) ([] ++ a.map bv) rfl HO5.out _ b.length (b.map bv) rfl (src_slice Try.underlying22 (by simp) (at_no HBB.out (KWB.out.trans (F5.out))) (by simp [Value.oneCell'])) (by omega) (by omega) ?_
              intro v6 w6 hown6 hfr6 hblk6
              rw [Nat.zero_add, List.nil_append, ← List.map_append] at hown6
              obtain ⟨a6, c6, hv6, hat6, hle6⟩ := hown6.at
              subst hv6
              have HA6 := Lib.hid hat6
              have F6 := Lib.hid (show Fr No wB w6 from (F5.out).step hfr6 (fun x o hx h => by have h9 := hb5 x h; omega))
              have hs6 := F6.out.size
              clear hown6 hfr6 hblk6 hat6
              refine hK.out _ _ (HB4.out _ F6.out) (fun hHeld => ?_)
              clear hK K
              refine wpAnyH_ready (rs := [7, 12]) (by kernel_rfl) (by simp) ?_
              refine AllReadyH.cons (o := { dst := some 62, op := Op.buildSlice 55 1 #[(0, Operand.tmp 61)], type := 55, pos := "meaning.go:31", after := #[{ on := 6, ground := Ground.data }], guard := none }) rfl (fun K hK => ?_) (AllReadyH.cons (o := { dst := some 13, op := Op.alloc 42, type := 0, pos := "meaning.go:31", after := #[], guard := none }) rfl (fun K hK => ?_) (AllReadyH.nil))
              · go_simp
                refine hK.out _ _ (HB4.out _ ((F6.out).alloc _)) (fun hHeld => ?_)
                clear hK K
                have HCS := Lib.hid (fun (W : World) (f : Fr No (w6.alloc (.cells #[.slice a6 (a.length + b.length) c6] 22)) W) => (show W.cell? ⟨w6.heap.size, 0, none⟩ = some (.slice a6 (a.length + b.length) c6) from (f.at.1 _ 0 (by simp)).trans (by simp)))
                refine wpAnyH_ready (rs := [8, 12]) (by kernel_rfl) (by simp) ?_
                refine AllReadyH.cons (o := { dst := some 63, op := Op.call { callee := Callee.value (Operand.func 47), args := #[Operand.tmp 55, Operand.tmp 56, Operand.tmp 62], argTypes := #[24, 37, 55] }, type := 67, pos := "meaning.go:31", after := #[{ on := 0, ground := Ground.data }, { on := 1, ground := Ground.data }, { on := 7, ground := Ground.data }, { on := 6, ground := Ground.chain }], guard := none }) rfl (fun K hK => ?_) (AllReadyH.cons (o := { dst := some 13, op := Op.alloc 42, type := 0, pos := "meaning.go:31", after := #[], guard := none }) rfl (fun K hK => ?_) (AllReadyH.nil))
                · go_simp
                  go_at_call 47
                  refine (HT3.out _ (KWB.out.trans ((F6.out).alloc _)) (w6.heap.size) a6 c6 (by rw [List.length_append]; exact (HCS.out _ (Fr.refl _ _))) (HA6.out.fr (show Fr No w6 _ from (Fr.refl No w6).alloc _) (fun _ _ _ _ _ _ x => x)) (by rw [List.length_append]; exact hle6)).mono ?_
                  rintro e7 w7 ⟨held3, taken3, rfl, hf7⟩
                  go_wp2_with fail
                  have F7 := Lib.hid (show Fr No wB w7 from ((F6.out).alloc _).trans hf7)
                  have hs7 := F7.out.size
                  clear hf7
                  refine hK.out _ _ (HB4.out _ F7.out) (fun hHeld => ?_)
                  clear hK K
                  refine wpAnyH_take (i := 9) (oi := { dst := some 54, op := Op.move (Operand.tmp 63), type := 67, pos := "meaning.go:31", after := #[{ on := 8, ground := Ground.data }], guard := none }) (v := ?_) rfl (by kernel_rfl) (by kernel_rfl) (by kernel_rfl) (fun _ _ _ h => h) (Or.inl ⟨by rfl, ?_⟩) (by assumption) ?_
                  rotate_left
                  · intro W hSw
                    obtain ⟨s0, s1, s2, s3⟩ := hSw
                    go_simp
                    try with_reducible rfl
                  simp only [Act.put, List.setIfInBounds_toArray, List.set_cons_zero, List.set_cons_succ]
                  refine wpAnyH_take (i := 10) (oi := { dst := some 64, op := Op.extract (Operand.tmp 54) 0, type := 42, pos := "meaning.go:31", after := #[{ on := 9, ground := Ground.data }], guard := none }) (v := ?_) rfl (by kernel_rfl) (by kernel_rfl) (by kernel_rfl) (fun _ _ _ h => h) (Or.inl ⟨by rfl, ?_⟩) (by assumption) ?_
                  rotate_left
                  · intro W hSw
                    obtain ⟨s0, s1, s2, s3⟩ := hSw
                    go_simp
                    try with_reducible rfl
                  simp only [Act.put, List.setIfInBounds_toArray, List.set_cons_zero, List.set_cons_succ]
                  refine wpAnyH_take (i := 11) (oi := { dst := some 65, op := Op.extract (Operand.tmp 54) 1, type := 4, pos := "meaning.go:31", after := #[{ on := 9, ground := Ground.data }, { on := 13, ground := Ground.gcOnly Departure.lateStores }], guard := none }) (v := ?_) rfl (by kernel_rfl) (by kernel_rfl) (by kernel_rfl) (fun _ _ _ h => h) (Or.inl ⟨by rfl, ?_⟩) (by assumption) ?_
                  rotate_left
                  · intro W hSw
                    obtain ⟨s0, s1, s2, s3⟩ := hSw
                    go_simp
                    try with_reducible rfl
                  simp only [Act.put, List.setIfInBounds_toArray, List.set_cons_zero, List.set_cons_succ]
                  refine wpAnyH_ready (rs := [12]) (by kernel_rfl) (by simp) ?_
                  refine AllReadyH.cons (o := { dst := some 13, op := Op.alloc 42, type := 0, pos := "meaning.go:31", after := #[], guard := none }) rfl (fun K hK => ?_) (AllReadyH.nil)
                  go_simp
                  have hgA : wB.heap.size ≤ w7.heap.size := by have h8 := (show Fr No wB w7 from F7.out).size; (try simp at h8); omega
                  refine hK.out _ _ (HB4.out _ ((F7.out).alloc _)) (fun hHeld => ?_)
                  clear hK K
                  have HRG : (w7.alloc (.cells (gotC [] 0 0 0 0) 42)).heap[w7.heap.size]? = some (.cells (gotC [] 0 0 0 0) 42 (0, 0)) := (heap_alloc_at w7 _ _ (by simp))
                  have HRG' := Lib.hid HRG; clear HRG
                  refine wpAnyH_ready (rs := [13]) (by kernel_rfl) (by simp) ?_
                  refine AllReadyH.cons (o := { dst := none, op := Op.store 42 (Operand.tmp 13) (Operand.tmp 64), type := 0, pos := "meaning.go:31", after := #[{ on := 12, ground := Ground.data }, { on := 10, ground := Ground.data }, { on := 8, ground := Ground.chain }, { on := 0, ground := Ground.phase }, { on := 1, ground := Ground.phase }, { on := 2, ground := Ground.phase }, { on := 3, ground := Ground.phase }, { on := 4, ground := Ground.phase }, { on := 5, ground := Ground.phase }, { on := 6, ground := Ground.phase }, { on := 7, ground := Ground.phase }, { on := 8, ground := Ground.phase }, { on := 9, ground := Ground.phase }, { on := 10, ground := Ground.phase }, { on := 11, ground := Ground.textOnly Departure.lateStores }, { on := 12, ground := Ground.phase }], guard := none }) rfl (fun K hK => ?_) (AllReadyH.nil)
                  rw [if_pos (by rfl)]
                  refine wp_store_row 42 (.tmp 13) (.tmp 64) rfl (w7.heap.size) (gotC o3 (-1) 0 held3 taken3) rfl rfl 42 (gotC [] 0 0 0 0) HRG'.out HSZ.out rfl (by simp [gotC, Value.oneCell']) ?_
                  have fset : Fr (fun x _ => x = w7.heap.size) (w7.alloc (.cells (gotC [] 0 0 0 0) 42)) ((w7.alloc (.cells (gotC [] 0 0 0 0) 42)).setRow (w7.heap.size) (gotC o3 (-1) 0 held3 taken3)) := (Fr.refl _ _).setRow _ _ (fun _ _ => rfl)
                  have HNF := Lib.hid (show Fr No wB ((w7.alloc (.cells (gotC [] 0 0 0 0) 42)).setRow (w7.heap.size) (gotC o3 (-1) 0 held3 taken3)) from ((F7.out).alloc _).step fset (fun x o hx e => by have h9 := hgA; omega))
                  have hcc := cell_of_row _ (w7.heap.size) 0 (gotC o3 (-1) 0 held3 taken3) 42 (0, 0) (setRow_heap (w7.alloc (.cells (gotC [] 0 0 0 0) 42)) (w7.heap.size) _ (gotC o3 (-1) 0 held3 taken3) 42 _ HRG'.out)
                  refine hK.out _ _ (HB4.out _ HNF.out) (fun hHeld => ?_)
                  clear hK K
                  refine wpAnyH_take (i := 14) (oi := { dst := some 14, op := Op.assign (Operand.tmp 65), type := 4, pos := "meaning.go:31", after := #[{ on := 11, ground := Ground.data }, { on := 13, ground := Ground.chain }, { on := 0, ground := Ground.phase }, { on := 1, ground := Ground.phase }, { on := 2, ground := Ground.phase }, { on := 3, ground := Ground.phase }, { on := 4, ground := Ground.phase }, { on := 5, ground := Ground.phase }, { on := 6, ground := Ground.phase }, { on := 7, ground := Ground.phase }, { on := 8, ground := Ground.phase }, { on := 9, ground := Ground.phase }, { on := 10, ground := Ground.phase }, { on := 11, ground := Ground.phase }, { on := 12, ground := Ground.phase }, { on := 13, ground := Ground.phase }], guard := none }) (v := ?_) rfl (by kernel_rfl) (by kernel_rfl) (by kernel_rfl) (fun _ _ _ h => h) (Or.inl ⟨by rfl, ?_⟩) (by assumption) ?_
                  rotate_left
                  · intro W hSw
                    obtain ⟨s0, s1, s2, s3⟩ := hSw
                    go_simp
                    try with_reducible rfl
                  simp only [Act.put, List.setIfInBounds_toArray, List.set_cons_zero, List.set_cons_succ]
                  refine wpAnyH_done (by kernel_rfl) ?_ _
                  refine NoPanic.normal ?_
                  go_wp2_with fail
                  go_meet
                  case rel => exact ⟨rfl, w7.heap.size, rfl, Lib.hid hcc, HNF⟩

                · go_simp
                  have hgA : wB.heap.size ≤ w6.heap.size + 1 := by have h8 := (show Fr No wB (w6.alloc (.cells #[.slice a6 (a.length + b.length) c6] 22)) from (F6.out).alloc _).size; (try simp at h8); omega
                  refine hK.out _ _ (HB4.out _ (((F6.out).alloc _).alloc _)) (fun hHeld => ?_)
                  clear hK K
                  refine wpAnyH_ready (rs := [8]) (by kernel_rfl) (by simp) ?_
                  refine AllReadyH.cons (o := { dst := some 63, op := Op.call { callee := Callee.value (Operand.func 47), args := #[Operand.tmp 55, Operand.tmp 56, Operand.tmp 62], argTypes := #[24, 37, 55] }, type := 67, pos := "meaning.go:31", after := #[{ on := 0, ground := Ground.data }, { on := 1, ground := Ground.data }, { on := 7, ground := Ground.data }, { on := 6, ground := Ground.chain }], guard := none }) rfl (fun K hK => ?_) (AllReadyH.nil)
                  go_simp
                  go_at_call 47
                  refine (HT3.out _ (KWB.out.trans (((F6.out).alloc _).alloc _)) (w6.heap.size) a6 c6 (by rw [List.length_append]; exact (HCS.out _ ((Fr.refl No _).alloc _))) (HA6.out.fr (show Fr No w6 _ from ((Fr.refl No w6).alloc _).alloc _) (fun _ _ _ _ _ _ x => x)) (by rw [List.length_append]; exact hle6)).mono ?_
                  rintro e7 w7 ⟨held3, taken3, rfl, hf7⟩
                  go_wp2_with fail
                  have F7 := Lib.hid (show Fr No wB w7 from (((F6.out).alloc _).alloc _).trans hf7)
                  have RG7 := Lib.hid (show w7.heap[w6.heap.size + 1]? = some (.cells (gotC [] 0 0 0 0) 42 (0, 0)) from (hf7.block _ (Array.getElem?_eq_some_iff.1 ((heap_alloc_at (w6.alloc (.cells #[.slice a6 (a.length + b.length) c6] 22)) _ _ (by simp)))).1 (fun _ h => h)).trans (heap_alloc_at (w6.alloc (.cells #[.slice a6 (a.length + b.length) c6] 22)) _ _ (by simp)))
                  have hs7 := F7.out.size
                  clear hf7
                  refine hK.out _ _ (HB4.out _ F7.out) (fun hHeld => ?_)
                  clear hK K
                  refine wpAnyH_take (i := 9) (oi := { dst := some 54, op := Op.move (Operand.tmp 63), type := 67, pos := "meaning.go:31", after := #[{ on := 8, ground := Ground.data }], guard := none }) (v := ?_) rfl (by kernel_rfl) (by kernel_rfl) (by kernel_rfl) (fun _ _ _ h => h) (Or.inl ⟨by rfl, ?_⟩) (by assumption) ?_
                  rotate_left
                  · intro W hSw
                    obtain ⟨s0, s1, s2, s3⟩ := hSw
                    go_simp
                    try with_reducible rfl
                  simp only [Act.put, List.setIfInBounds_toArray, List.set_cons_zero, List.set_cons_succ]
                  refine wpAnyH_take (i := 10) (oi := { dst := some 64, op := Op.extract (Operand.tmp 54) 0, type := 42, pos := "meaning.go:31", after := #[{ on := 9, ground := Ground.data }], guard := none }) (v := ?_) rfl (by kernel_rfl) (by kernel_rfl) (by kernel_rfl) (fun _ _ _ h => h) (Or.inl ⟨by rfl, ?_⟩) (by assumption) ?_
                  rotate_left
                  · intro W hSw
                    obtain ⟨s0, s1, s2, s3⟩ := hSw
                    go_simp
                    try with_reducible rfl
                  simp only [Act.put, List.setIfInBounds_toArray, List.set_cons_zero, List.set_cons_succ]
                  refine wpAnyH_take (i := 11) (oi := { dst := some 65, op := Op.extract (Operand.tmp 54) 1, type := 4, pos := "meaning.go:31", after := #[{ on := 9, ground := Ground.data }, { on := 13, ground := Ground.gcOnly Departure.lateStores }], guard := none }) (v := ?_) rfl (by kernel_rfl) (by kernel_rfl) (by kernel_rfl) (fun _ _ _ h => h) (Or.inl ⟨by rfl, ?_⟩) (by assumption) ?_
                  rotate_left
                  · intro W hSw
                    obtain ⟨s0, s1, s2, s3⟩ := hSw
                    go_simp
                    try with_reducible rfl
                  simp only [Act.put, List.setIfInBounds_toArray, List.set_cons_zero, List.set_cons_succ]
                  have HRG : w7.heap[w6.heap.size + 1]? = some (.cells (gotC [] 0 0 0 0) 42 (0, 0)) := RG7.out
                  have HRG' := Lib.hid HRG; clear HRG
                  refine wpAnyH_ready (rs := [13]) (by kernel_rfl) (by simp) ?_
                  refine AllReadyH.cons (o := { dst := none, op := Op.store 42 (Operand.tmp 13) (Operand.tmp 64), type := 0, pos := "meaning.go:31", after := #[{ on := 12, ground := Ground.data }, { on := 10, ground := Ground.data }, { on := 8, ground := Ground.chain }, { on := 0, ground := Ground.phase }, { on := 1, ground := Ground.phase }, { on := 2, ground := Ground.phase }, { on := 3, ground := Ground.phase }, { on := 4, ground := Ground.phase }, { on := 5, ground := Ground.phase }, { on := 6, ground := Ground.phase }, { on := 7, ground := Ground.phase }, { on := 8, ground := Ground.phase }, { on := 9, ground := Ground.phase }, { on := 10, ground := Ground.phase }, { on := 11, ground := Ground.textOnly Departure.lateStores }, { on := 12, ground := Ground.phase }], guard := none }) rfl (fun K hK => ?_) (AllReadyH.nil)
                  rw [if_pos (by rfl)]
                  refine wp_store_row 42 (.tmp 13) (.tmp 64) rfl (w6.heap.size + 1) (gotC o3 (-1) 0 held3 taken3) rfl rfl 42 (gotC [] 0 0 0 0) HRG'.out HSZ.out rfl (by simp [gotC, Value.oneCell']) ?_
                  have fset : Fr (fun x _ => x = w6.heap.size + 1) w7 (w7.setRow (w6.heap.size + 1) (gotC o3 (-1) 0 held3 taken3)) := (Fr.refl _ _).setRow _ _ (fun _ _ => rfl)
                  have HNF := Lib.hid (show Fr No wB (w7.setRow (w6.heap.size + 1) (gotC o3 (-1) 0 held3 taken3)) from (F7.out).step fset (fun x o hx e => by have h9 := hgA; omega))
                  have hcc := cell_of_row _ (w6.heap.size + 1) 0 (gotC o3 (-1) 0 held3 taken3) 42 (0, 0) (setRow_heap w7 (w6.heap.size + 1) _ (gotC o3 (-1) 0 held3 taken3) 42 _ HRG'.out)
                  refine hK.out _ _ (HB4.out _ HNF.out) (fun hHeld => ?_)
                  clear hK K
                  refine wpAnyH_take (i := 14) (oi := { dst := some 14, op := Op.assign (Operand.tmp 65), type := 4, pos := "meaning.go:31", after := #[{ on := 11, ground := Ground.data }, { on := 13, ground := Ground.chain }, { on := 0, ground := Ground.phase }, { on := 1, ground := Ground.phase }, { on := 2, ground := Ground.phase }, { on := 3, ground := Ground.phase }, { on := 4, ground := Ground.phase }, { on := 5, ground := Ground.phase }, { on := 6, ground := Ground.phase }, { on := 7, ground := Ground.phase }, { on := 8, ground := Ground.phase }, { on := 9, ground := Ground.phase }, { on := 10, ground := Ground.phase }, { on := 11, ground := Ground.phase }, { on := 12, ground := Ground.phase }, { on := 13, ground := Ground.phase }], guard := none }) (v := ?_) rfl (by kernel_rfl) (by kernel_rfl) (by kernel_rfl) (fun _ _ _ h => h) (Or.inl ⟨by rfl, ?_⟩) (by assumption) ?_
                  rotate_left
                  · intro W hSw
                    obtain ⟨s0, s1, s2, s3⟩ := hSw
                    go_simp
                    try with_reducible rfl
                  simp only [Act.put, List.setIfInBounds_toArray, List.set_cons_zero, List.set_cons_succ]
                  refine wpAnyH_done (by kernel_rfl) ?_ _
                  refine NoPanic.normal ?_
                  go_wp2_with fail
                  go_meet
                  case rel => exact ⟨rfl, w6.heap.size + 1, rfl, Lib.hid hcc, HNF⟩


              · go_simp
                have hgA : wB.heap.size ≤ w6.heap.size := by have h8 := (show Fr No wB w6 from F6.out).size; (try simp at h8); omega
                refine hK.out _ _ (HB4.out _ ((F6.out).alloc _)) (fun hHeld => ?_)
                clear hK K
                refine wpAnyH_ready (rs := [7]) (by kernel_rfl) (by simp) ?_
                refine AllReadyH.cons (o := { dst := some 62, op := Op.buildSlice 55 1 #[(0, Operand.tmp 61)], type := 55, pos := "meaning.go:31", after := #[{ on := 6, ground := Ground.data }], guard := none }) rfl (fun K hK => ?_) (AllReadyH.nil)
                go_simp
                refine hK.out _ _ (HB4.out _ (((F6.out).alloc _).alloc _)) (fun hHeld => ?_)
                clear hK K
                have HCS := Lib.hid (fun (W : World) (f : Fr No ((w6.alloc (.cells (gotC [] 0 0 0 0) 42)).alloc (.cells #[.slice a6 (a.length + b.length) c6] 22)) W) => (show W.cell? ⟨w6.heap.size + 1, 0, none⟩ = some (.slice a6 (a.length + b.length) c6) from (f.at.1 _ 0 (by simp)).trans (by simp)))
                refine wpAnyH_ready (rs := [8]) (by kernel_rfl) (by simp) ?_
                refine AllReadyH.cons (o := { dst := some 63, op := Op.call { callee := Callee.value (Operand.func 47), args := #[Operand.tmp 55, Operand.tmp 56, Operand.tmp 62], argTypes := #[24, 37, 55] }, type := 67, pos := "meaning.go:31", after := #[{ on := 0, ground := Ground.data }, { on := 1, ground := Ground.data }, { on := 7, ground := Ground.data }, { on := 6, ground := Ground.chain }], guard := none }) rfl (fun K hK => ?_) (AllReadyH.nil)
                go_simp
                go_at_call 47
                refine (HT3.out _ (KWB.out.trans (((F6.out).alloc _).alloc _)) (w6.heap.size + 1) a6 c6 (by rw [List.length_append]; exact (HCS.out _ (Fr.refl _ _))) (HA6.out.fr (show Fr No w6 _ from ((Fr.refl No w6).alloc _).alloc _) (fun _ _ _ _ _ _ x => x)) (by rw [List.length_append]; exact hle6)).mono ?_
                rintro e7 w7 ⟨held3, taken3, rfl, hf7⟩
                go_wp2_with fail
                have F7 := Lib.hid (show Fr No wB w7 from (((F6.out).alloc _).alloc _).trans hf7)
                have RG7 := Lib.hid (show w7.heap[w6.heap.size]? = some (.cells (gotC [] 0 0 0 0) 42 (0, 0)) from (hf7.block _ (Array.getElem?_eq_some_iff.1 ((hold (heap_alloc_at w6 _ _ (by simp))))).1 (fun _ h => h)).trans (hold (heap_alloc_at w6 _ _ (by simp))))
                have hs7 := F7.out.size
                clear hf7
                refine hK.out _ _ (HB4.out _ F7.out) (fun hHeld => ?_)
                clear hK K
                refine wpAnyH_take (i := 9) (oi := { dst := some 54, op := Op.move (Operand.tmp 63), type := 67, pos := "meaning.go:31", after := #[{ on := 8, ground := Ground.data }], guard := none }) (v := ?_) rfl (by kernel_rfl) (by kernel_rfl) (by kernel_rfl) (fun _ _ _ h => h) (Or.inl ⟨by rfl, ?_⟩) (by assumption) ?_
                rotate_left
                · intro W hSw
                  obtain ⟨s0, s1, s2, s3⟩ := hSw
                  go_simp
                  try with_reducible rfl
                simp only [Act.put, List.setIfInBounds_toArray, List.set_cons_zero, List.set_cons_succ]
                refine wpAnyH_take (i := 10) (oi := { dst := some 64, op := Op.extract (Operand.tmp 54) 0, type := 42, pos := "meaning.go:31", after := #[{ on := 9, ground := Ground.data }], guard := none }) (v := ?_) rfl (by kernel_rfl) (by kernel_rfl) (by kernel_rfl) (fun _ _ _ h => h) (Or.inl ⟨by rfl, ?_⟩) (by assumption) ?_
                rotate_left
                · intro W hSw
                  obtain ⟨s0, s1, s2, s3⟩ := hSw
                  go_simp
                  try with_reducible rfl
                simp only [Act.put, List.setIfInBounds_toArray, List.set_cons_zero, List.set_cons_succ]
                refine wpAnyH_take (i := 11) (oi := { dst := some 65, op := Op.extract (Operand.tmp 54) 1, type := 4, pos := "meaning.go:31", after := #[{ on := 9, ground := Ground.data }, { on := 13, ground := Ground.gcOnly Departure.lateStores }], guard := none }) (v := ?_) rfl (by kernel_rfl) (by kernel_rfl) (by kernel_rfl) (fun _ _ _ h => h) (Or.inl ⟨by rfl, ?_⟩) (by assumption) ?_
                rotate_left
                · intro W hSw
                  obtain ⟨s0, s1, s2, s3⟩ := hSw
                  go_simp
                  try with_reducible rfl
                simp only [Act.put, List.setIfInBounds_toArray, List.set_cons_zero, List.set_cons_succ]
                have HRG : w7.heap[w6.heap.size]? = some (.cells (gotC [] 0 0 0 0) 42 (0, 0)) := RG7.out
                have HRG' := Lib.hid HRG; clear HRG
                refine wpAnyH_ready (rs := [13]) (by kernel_rfl) (by simp) ?_
                refine AllReadyH.cons (o := { dst := none, op := Op.store 42 (Operand.tmp 13) (Operand.tmp 64), type := 0, pos := "meaning.go:31", after := #[{ on := 12, ground := Ground.data }, { on := 10, ground := Ground.data }, { on := 8, ground := Ground.chain }, { on := 0, ground := Ground.phase }, { on := 1, ground := Ground.phase }, { on := 2, ground := Ground.phase }, { on := 3, ground := Ground.phase }, { on := 4, ground := Ground.phase }, { on := 5, ground := Ground.phase }, { on := 6, ground := Ground.phase }, { on := 7, ground := Ground.phase }, { on := 8, ground := Ground.phase }, { on := 9, ground := Ground.phase }, { on := 10, ground := Ground.phase }, { on := 11, ground := Ground.textOnly Departure.lateStores }, { on := 12, ground := Ground.phase }], guard := none }) rfl (fun K hK => ?_) (AllReadyH.nil)
                rw [if_pos (by rfl)]
                refine wp_store_row 42 (.tmp 13) (.tmp 64) rfl (w6.heap.size) (gotC o3 (-1) 0 held3 taken3) rfl rfl 42 (gotC [] 0 0 0 0) HRG'.out HSZ.out rfl (by simp [gotC, Value.oneCell']) ?_
                have fset : Fr (fun x _ => x = w6.heap.size) w7 (w7.setRow (w6.heap.size) (gotC o3 (-1) 0 held3 taken3)) := (Fr.refl _ _).setRow _ _ (fun _ _ => rfl)
                have HNF := Lib.hid (show Fr No wB (w7.setRow (w6.heap.size) (gotC o3 (-1) 0 held3 taken3)) from (F7.out).step fset (fun x o hx e => by have h9 := hgA; omega))
                have hcc := cell_of_row _ (w6.heap.size) 0 (gotC o3 (-1) 0 held3 taken3) 42 (0, 0) (setRow_heap w7 (w6.heap.size) _ (gotC o3 (-1) 0 held3 taken3) 42 _ HRG'.out)
                refine hK.out _ _ (HB4.out _ HNF.out) (fun hHeld => ?_)
                clear hK K
                refine wpAnyH_take (i := 14) (oi := { dst := some 14, op := Op.assign (Operand.tmp 65), type := 4, pos := "meaning.go:31", after := #[{ on := 11, ground := Ground.data }, { on := 13, ground := Ground.chain }, { on := 0, ground := Ground.phase }, { on := 1, ground := Ground.phase }, { on := 2, ground := Ground.phase }, { on := 3, ground := Ground.phase }, { on := 4, ground := Ground.phase }, { on := 5, ground := Ground.phase }, { on := 6, ground := Ground.phase }, { on := 7, ground := Ground.phase }, { on := 8, ground := Ground.phase }, { on := 9, ground := Ground.phase }, { on := 10, ground := Ground.phase }, { on := 11, ground := Ground.phase }, { on := 12, ground := Ground.phase }, { on := 13, ground := Ground.phase }], guard := none }) (v := ?_) rfl (by kernel_rfl) (by kernel_rfl) (by kernel_rfl) (fun _ _ _ h => h) (Or.inl ⟨by rfl, ?_⟩) (by assumption) ?_
                rotate_left
                · intro W hSw
                  obtain ⟨s0, s1, s2, s3⟩ := hSw
                  go_simp
                  try with_reducible rfl
                simp only [Act.put, List.setIfInBounds_toArray, List.set_cons_zero, List.set_cons_succ]
                refine wpAnyH_done (by kernel_rfl) ?_ _
                refine NoPanic.normal ?_
                go_wp2_with fail
                go_meet
                case rel => exact ⟨rfl, w6.heap.size, rfl, Lib.hid hcc, HNF⟩


            · go_simp
              have hgA : wB.heap.size ≤ w5.heap.size := by have h8 := (show Fr No wB w5 from F5.out).size; (try simp at h8); omega
              refine hK.out _ _ (HB4.out _ ((F5.out).alloc _)) (fun hHeld => ?_)
              clear hK K
              refine wpAnyH_ready (rs := [6]) (by kernel_rfl) (by simp) ?_
              refine AllReadyH.cons (o := { dst := some 61, op := Op.call { callee := Callee.builtin Builtin.append, args := #[Operand.tmp 59, Operand.tmp 60], argTypes := #[22, 22] }, type := 22, pos := "meaning.go:31", after := #[{ on := 4, ground := Ground.data }, { on := 5, ground := Ground.data }, { on := 4, ground := Ground.chain }], guard := none }) rfl (fun K hK => ?_) (AllReadyH.nil)
              refine step_append_sl rfl (.tmp 59) (.tmp 60) 22 22 rfl 5 j0 (.int .u8 0) 1 1 Try.underlying22 hj jz0 jz1 jz2 rfl (by decide) v5 (0 + a.length) ([] ++ a.map bv) rfl (HO5.out.fr ((Fr.refl No _).alloc _) (fun _ _ _ x => x)) _ b.length (b.map bv) rfl (src_slice Try.underlying22 (by simp) (at_no HBB.out (KWB.out.trans ((F5.out).alloc _))) (by simp [Value.oneCell'])) (by omega) (by omega) ?_
              intro v6 w6 hown6 hfr6 hblk6
              rw [Nat.zero_add, List.nil_append, ← List.map_append] at hown6
              obtain ⟨a6, c6, hv6, hat6, hle6⟩ := hown6.at
              subst hv6
              have HA6 := Lib.hid hat6
              have F6 := Lib.hid (show Fr No wB w6 from ((F5.out).alloc _).step hfr6 (fun x o hx h => by have h9 := hb5 x h; omega))
              have RG6 := Lib.hid (show w6.heap[w5.heap.size]? = some (.cells (gotC [] 0 0 0 0) 42 (0, 0)) from (hfr6.block _ (Array.getElem?_eq_some_iff.1 ((heap_alloc_at w5 _ _ (by simp)))).1 (fun _ h => by have h9 := HO5.out.lt _ h; omega)).trans (heap_alloc_at w5 _ _ (by simp)))
              have hs6 := F6.out.size
              clear hown6 hfr6 hblk6 hat6
              refine hK.out _ _ (HB4.out _ F6.out) (fun hHeld => ?_)
              clear hK K
              refine wpAnyH_ready (rs := [7]) (by kernel_rfl) (by simp) ?_
              refine AllReadyH.cons (o := { dst := some 62, op := Op.buildSlice 55 1 #[(0, Operand.tmp 61)], type := 55, pos := "meaning.go:31", after := #[{ on := 6, ground := Ground.data }], guard := none }) rfl (fun K hK => ?_) (AllReadyH.nil)
              go_simp
              refine hK.out _ _ (HB4.out _ ((F6.out).alloc _)) (fun hHeld => ?_)
              clear hK K
              have HCS := Lib.hid (fun (W : World) (f : Fr No (w6.alloc (.cells #[.slice a6 (a.length + b.length) c6] 22)) W) => (show W.cell? ⟨w6.heap.size, 0, none⟩ = some (.slice a6 (a.length + b.length) c6) from (f.at.1 _ 0 (by simp)).trans (by simp)))
              refine wpAnyH_ready (rs := [8]) (by kernel_rfl) (by simp) ?_
              refine AllReadyH.cons (o := { dst := some 63, op := Op.call { callee := Callee.value (Operand.func 47), args := #[Operand.tmp 55, Operand.tmp 56, Operand.tmp 62], argTypes := #[24, 37, 55] }, type := 67, pos := "meaning.go:31", after := #[{ on := 0, ground := Ground.data }, { on := 1, ground := Ground.data }, { on := 7, ground := Ground.data }, { on := 6, ground := Ground.chain }], guard := none }) rfl (fun K hK => ?_) (AllReadyH.nil)
              go_simp
              go_at_call 47
              refine (HT3.out _ (KWB.out.trans ((F6.out).alloc _)) (w6.heap.size) a6 c6 (by rw [List.length_append]; exact (HCS.out _ (Fr.refl _ _))) (HA6.out.fr (show Fr No w6 _ from (Fr.refl No w6).alloc _) (fun _ _ _ _ _ _ x => x)) (by rw [List.length_append]; exact hle6)).mono ?_
              rintro e7 w7 ⟨held3, taken3, rfl, hf7⟩
              go_wp2_with fail
              have F7 := Lib.hid (show Fr No wB w7 from ((F6.out).alloc _).trans hf7)
              have RG7 := Lib.hid (show w7.heap[w5.heap.size]? = some (.cells (gotC [] 0 0 0 0) 42 (0, 0)) from (hf7.block _ (Array.getElem?_eq_some_iff.1 ((hold RG6.out))).1 (fun _ h => h)).trans (hold RG6.out))
              have hs7 := F7.out.size
              clear hf7
              refine hK.out _ _ (HB4.out _ F7.out) (fun hHeld => ?_)
              clear hK K
              refine wpAnyH_take (i := 9) (oi := { dst := some 54, op := Op.move (Operand.tmp 63), type := 67, pos := "meaning.go:31", after := #[{ on := 8, ground := Ground.data }], guard := none }) (v := ?_) rfl (by kernel_rfl) (by kernel_rfl) (by kernel_rfl) (fun _ _ _ h => h) (Or.inl ⟨by rfl, ?_⟩) (by assumption) ?_
              rotate_left
              · intro W hSw
                obtain ⟨s0, s1, s2, s3⟩ := hSw
                go_simp
                try with_reducible rfl
              simp only [Act.put, List.setIfInBounds_toArray, List.set_cons_zero, List.set_cons_succ]
              refine wpAnyH_take (i := 10) (oi := { dst := some 64, op := Op.extract (Operand.tmp 54) 0, type := 42, pos := "meaning.go:31", after := #[{ on := 9, ground := Ground.data }], guard := none }) (v := ?_) rfl (by kernel_rfl) (by kernel_rfl) (by kernel_rfl) (fun _ _ _ h => h) (Or.inl ⟨by rfl, ?_⟩) (by assumption) ?_
              rotate_left
              · intro W hSw
                obtain ⟨s0, s1, s2, s3⟩ := hSw
                go_simp
                try with_reducible rfl
              simp only [Act.put, List.setIfInBounds_toArray, List.set_cons_zero, List.set_cons_succ]
              refine wpAnyH_take (i := 11) (oi := { dst := some 65, op := Op.extract (Operand.tmp 54) 1, type := 4, pos := "meaning.go:31", after := #[{ on := 9, ground := Ground.data }, { on := 13, ground := Ground.gcOnly Departure.lateStores }], guard := none }) (v := ?_) rfl (by kernel_rfl) (by kernel_rfl) (by kernel_rfl) (fun _ _ _ h => h) (Or.inl ⟨by rfl, ?_⟩) (by assumption) ?_
              rotate_left
              · intro W hSw
                obtain ⟨s0, s1, s2, s3⟩ := hSw
                go_simp
                try with_reducible rfl
              simp only [Act.put, List.setIfInBounds_toArray, List.set_cons_zero, List.set_cons_succ]
              have HRG : w7.heap[w5.heap.size]? = some (.cells (gotC [] 0 0 0 0) 42 (0, 0)) := RG7.out
              have HRG' := Lib.hid HRG; clear HRG
              refine wpAnyH_ready (rs := [13]) (by kernel_rfl) (by simp) ?_
              refine AllReadyH.cons (o := { dst := none, op := Op.store 42 (Operand.tmp 13) (Operand.tmp 64), type := 0, pos := "meaning.go:31", after := #[{ on := 12, ground := Ground.data }, { on := 10, ground := Ground.data }, { on := 8, ground := Ground.chain }, { on := 0, ground := Ground.phase }, { on := 1, ground := Ground.phase }, { on := 2, ground := Ground.phase }, { on := 3, ground := Ground.phase }, { on := 4, ground := Ground.phase }, { on := 5, ground := Ground.phase }, { on := 6, ground := Ground.phase }, { on := 7, ground := Ground.phase }, { on := 8, ground := Ground.phase }, { on := 9, ground := Ground.phase }, { on := 10, ground := Ground.phase }, { on := 11, ground := Ground.textOnly Departure.lateStores }, { on := 12, ground := Ground.phase }], guard := none }) rfl (fun K hK => ?_) (AllReadyH.nil)
              rw [if_pos (by rfl)]
              refine wp_store_row 42 (.tmp 13) (.tmp 64) rfl (w5.heap.size) (gotC o3 (-1) 0 held3 taken3) rfl rfl 42 (gotC [] 0 0 0 0) HRG'.out HSZ.out rfl (by simp [gotC, Value.oneCell']) ?_
              have fset : Fr (fun x _ => x = w5.heap.size) w7 (w7.setRow (w5.heap.size) (gotC o3 (-1) 0 held3 taken3)) := (Fr.refl _ _).setRow _ _ (fun _ _ => rfl)
              have HNF := Lib.hid (show Fr No wB (w7.setRow (w5.heap.size) (gotC o3 (-1) 0 held3 taken3)) from (F7.out).step fset (fun x o hx e => by have h9 := hgA; omega))
              have hcc := cell_of_row _ (w5.heap.size) 0 (gotC o3 (-1) 0 held3 taken3) 42 (0, 0) (setRow_heap w7 (w5.heap.size) _ (gotC o3 (-1) 0 held3 taken3) 42 _ HRG'.out)
              refine hK.out _ _ (HB4.out _ HNF.out) (fun hHeld => ?_)
              clear hK K
              refine wpAnyH_take (i := 14) (oi := { dst := some 14, op := Op.assign (Operand.tmp 65), type := 4, pos := "meaning.go:31", after := #[{ on := 11, ground := Ground.data }, { on := 13, ground := Ground.chain }, { on := 0, ground := Ground.phase }, { on := 1, ground := Ground.phase }, { on := 2, ground := Ground.phase }, { on := 3, ground := Ground.phase }, { on := 4, ground := Ground.phase }, { on := 5, ground := Ground.phase }, { on := 6, ground := Ground.phase }, { on := 7, ground := Ground.phase }, { on := 8, ground := Ground.phase }, { on := 9, ground := Ground.phase }, { on := 10, ground := Ground.phase }, { on := 11, ground := Ground.phase }, { on := 12, ground := Ground.phase }, { on := 13, ground := Ground.phase }], guard := none }) (v := ?_) rfl (by kernel_rfl) (by kernel_rfl) (by kernel_rfl) (fun _ _ _ h => h) (Or.inl ⟨by rfl, ?_⟩) (by assumption) ?_
              rotate_left
              · intro W hSw
                obtain ⟨s0, s1, s2, s3⟩ := hSw
                go_simp
                try with_reducible rfl
              simp only [Act.put, List.setIfInBounds_toArray, List.set_cons_zero, List.set_cons_succ]
              refine wpAnyH_done (by kernel_rfl) ?_ _
              refine NoPanic.normal ?_
              go_wp2_with fail
              go_meet
              case rel => exact ⟨rfl, w5.heap.size, rfl, Lib.hid hcc, HNF⟩


          · go_simp
            have hgA : wB.heap.size ≤ wB.heap.size + 1 := by have h8 := (show Fr No wB (wB.drew.alloc (.cells #[] 5)) from ((Fr.refl No wB).drew).alloc _).size; (try simp at h8); omega
            refine hK.out _ _ (HB4.out _ ((((Fr.refl No wB).drew).alloc _).alloc _)) (fun hHeld => ?_)
            clear hK K
            refine wpAnyH_ready (rs := [4]) (by kernel_rfl) (by simp) ?_
            refine AllReadyH.cons (o := { dst := some 59, op := Op.call { callee := Callee.builtin Builtin.append, args := #[Operand.tmp 57, Operand.tmp 58], argTypes := #[22, 22] }, type := 22, pos := "meaning.go:31", after := #[{ on := 2, ground := Ground.data }, { on := 3, ground := Ground.data }], guard := none }) rfl (fun K hK => ?_) (AllReadyH.nil)
            refine step_append_sl rfl (.tmp 57) (.tmp 58) 22 22 rfl 5 j0 (.int .u8 0) 1 1 Try.underlying22 hj jz0 jz1 jz2 rfl (by decide) (.slice (some ⟨wB.heap.size, 0, none⟩) 0 0) 0 [] rfl ((own_of_heap 1 (heap_alloc_at wB.drew _ _ (by simp))).fr ((Fr.refl No _).alloc _) (fun _ _ _ x => x)) _ a.length (a.map bv) rfl (src_slice Try.underlying22 (by simp) (at_no HAA.out (KWB.out.trans ((((Fr.refl No wB).drew).alloc _).alloc _))) (by simp [Value.oneCell'])) (by omega) (by omega) ?_
            intro v5 w5 hown5 hfr5 hblk5
            have HO5 := Lib.hid hown5
            have F5 := Lib.hid (show Fr No wB w5 from ((((Fr.refl No wB).drew).alloc _).alloc _).step hfr5 (fun x o hx h => by have h' : some (wB.heap.size) = some x := h; injection h' with h'; omega))
            have RG5 := Lib.hid (show w5.heap[wB.heap.size + 1]? = some (.cells (gotC [] 0 0 0 0) 42 (0, 0)) from (hfr5.block _ (Array.getElem?_eq_some_iff.1 ((heap_alloc_at (wB.drew.alloc (.cells #[] 5)) _ _ (by simp)))).1 (fun _ h => by have h' : some (wB.heap.size) = some (wB.heap.size + 1) := h; injection h' with h'; omega)).trans (heap_alloc_at (wB.drew.alloc (.cells #[] 5)) _ _ (by simp)))
            have hb5 : ∀ x, v5.ownBlock = some x → wB.heap.size ≤ x := fun x e => by
              rcases hblk5 with h | h
              · rw [h] at e; have h' : some (wB.heap.size) = some x := e; injection h' with h'; omega
              · rw [h] at e; injection e with e; (try simp at e); omega
            have hn5 : ∀ x, v5.ownBlock = some x → x ≠ wB.heap.size + 1 := fun x e => by
              rcases hblk5 with h | h
              · rw [h] at e; have h' : some (wB.heap.size) = some x := e; injection h' with h'; omega
              · rw [h] at e; injection e with e; (try simp at e); omega
            have hs5 := F5.out.size
            clear hown5 hfr5 hblk5
            refine hK.out _ _ (HB4.out _ F5.out) (fun hHeld => ?_)
            clear hK K
            refine wpAnyH_ready (rs := [6]) (by kernel_rfl) (by simp) ?_
            refine AllReadyH.cons (o := { dst := some 61, op := Op.call { callee := Callee.builtin Builtin.append, args := #[Operand.tmp 59, Operand.tmp 60], argTypes := #[22, 22] }, type := 22, pos := "meaning.go:31", after := #[{ on := 4, ground := Ground.data }, { on := 5, ground := Ground.data }, { on := 4, ground := Ground.chain }], guard := none }) rfl (fun K hK => ?_) (AllReadyH.nil)
            refine step_append_sl rfl (.tmp 59) (.tmp 60) 22 22 rfl 5 j0 (.int .u8 0) 1 1 Try.underlying22 hj jz0 jz1 jz2 rfl (by decide) v5 (0 + a.length) ([] ++ a.map bv) rfl HO5.out _ b.length (b.map bv) rfl (src_slice Try.underlying22 (by simp) (at_no HBB.out (KWB.out.trans (F5.out))) (by simp [Value.oneCell'])) (by omega) (by omega) ?_
            intro v6 w6 hown6 hfr6 hblk6
            rw [Nat.zero_add, List.nil_append, ← List.map_append] at hown6
            obtain ⟨a6, c6, hv6, hat6, hle6⟩ := hown6.at
            subst hv6
            have HA6 := Lib.hid hat6
            have F6 := Lib.hid (show Fr No wB w6 from (F5.out).step hfr6 (fun x o hx h => by have h9 := hb5 x h; omega))
            have RG6 := Lib.hid (show w6.heap[wB.heap.size + 1]? = some (.cells (gotC [] 0 0 0 0) 42 (0, 0)) from (hfr6.block _ (Array.getElem?_eq_some_iff.1 (RG5.out)).1 (fun _ h => hn5 _ h rfl)).trans RG5.out)
            have hs6 := F6.out.size
            clear hown6 hfr6 hblk6 hat6
            refine hK.out _ _ (HB4.out _ F6.out) (fun hHeld => ?_)
            clear hK K
            refine wpAnyH_ready (rs := [7]) (by kernel_rfl) (by simp) ?_
            refine AllReadyH.cons (o := { dst := some 62, op := Op.buildSlice 55 1 #[(0, Operand.tmp 61)], type := 55, pos := "meaning.go:31", after := #[{ on := 6, ground := Ground.data }], guard := none }) rfl (fun K hK => ?_) (AllReadyH.nil)
            go_simp
            refine hK.out _ _ (HB4.out _ ((F6.out).alloc _)) (fun hHeld => ?_)
            clear hK K
            have HCS := Lib.hid (fun (W : World) (f : Fr No (w6.alloc (.cells #[.slice a6 (a.length + b.length) c6] 22)) W) => (show W.cell? ⟨w6.heap.size, 0, none⟩ = some (.slice a6 (a.length + b.length) c6) from (f.at.1 _ 0 (by simp)).trans (by simp)))
            refine wpAnyH_ready (rs := [8]) (by kernel_rfl) (by simp) ?_
            refine AllReadyH.cons (o := { dst := some 63, op := Op.call { callee := Callee.value (Operand.func 47), args := #[Operand.tmp 55, Operand.tmp 56, Operand.tmp 62], argTypes := #[24, 37, 55] }, type := 67, pos := "meaning.go:31", after := #[{ on := 0, ground := Ground.data }, { on := 1, ground := Ground.data }, { on := 7, ground := Ground.data }, { on := 6, ground := Ground.chain }], guard := none }) rfl (fun K hK => ?_) (AllReadyH.nil)
            go_simp
            go_at_call 47
            refine (HT3.out _ (KWB.out.trans ((F6.out).alloc _)) (w6.heap.size) a6 c6 (by rw [List.length_append]; exact (HCS.out _ (Fr.refl _ _))) (HA6.out.fr (show Fr No w6 _ from (Fr.refl No w6).alloc _) (fun _ _ _ _ _ _ x => x)) (by rw [List.length_append]; exact hle6)).mono ?_
            rintro e7 w7 ⟨held3, taken3, rfl, hf7⟩
            go_wp2_with fail
            have F7 := Lib.hid (show Fr No wB w7 from ((F6.out).alloc _).trans hf7)
            have RG7 := Lib.hid (show w7.heap[wB.heap.size + 1]? = some (.cells (gotC [] 0 0 0 0) 42 (0, 0)) from (hf7.block _ (Array.getElem?_eq_some_iff.1 ((hold RG6.out))).1 (fun _ h => h)).trans (hold RG6.out))
            have hs7 := F7.out.size
            clear hf7
            refine hK.out _ _ (HB4.out _ F7.out) (fun hHeld => ?_)
            clear hK K
            refine wpAnyH_take (i := 9) (oi := { dst := some 54, op := Op.move (Operand.tmp 63), type := 67, pos := "meaning.go:31", after := #[{ on := 8, ground := Ground.data }], guard := none }) (v := ?_) rfl (by kernel_rfl) (by kernel_rfl) (by kernel_rfl) (fun _ _ _ h => h) (Or.inl ⟨by rfl, ?_⟩) (by assumption) ?_
            rotate_left
            · intro W hSw
              obtain ⟨s0, s1, s2, s3⟩ := hSw
              go_simp
              try with_reducible rfl
            simp only [Act.put, List.setIfInBounds_toArray, List.set_cons_zero, List.set_cons_succ]
            refine wpAnyH_take (i := 10) (oi := { dst := some 64, op := Op.extract (Operand.tmp 54) 0, type := 42, pos := "meaning.go:31", after := #[{ on := 9, ground := Ground.data }], guard := none }) (v := ?_) rfl (by kernel_rfl) (by kernel_rfl) (by kernel_rfl) (fun _ _ _ h => h) (Or.inl ⟨by rfl, ?_⟩) (by assumption) ?_
            rotate_left
            · intro W hSw
              obtain ⟨s0, s1, s2, s3⟩ := hSw
              go_simp
              try with_reducible rfl
            simp only [Act.put, List.setIfInBounds_toArray, List.set_cons_zero, List.set_cons_succ]
            refine wpAnyH_take (i := 11) (oi := { dst := some 65, op := Op.extract (Operand.tmp 54) 1, type := 4, pos := "meaning.go:31", after := #[{ on := 9, ground := Ground.data }, { on := 13, ground := Ground.gcOnly Departure.lateStores }], guard := none }) (v := ?_) rfl (by kernel_rfl) (by kernel_rfl) (by kernel_rfl) (fun _ _ _ h => h) (Or.inl ⟨by rfl, ?_⟩) (by assumption) ?_
            rotate_left
            · intro W hSw
              obtain ⟨s0, s1, s2, s3⟩ := hSw
              go_simp
              try with_reducible rfl
            simp only [Act.put, List.setIfInBounds_toArray, List.set_cons_zero, List.set_cons_succ]
            have HRG : w7.heap[wB.heap.size + 1]? = some (.cells (gotC [] 0 0 0 0) 42 (0, 0)) := RG7.out
            have HRG' := Lib.hid HRG; clear HRG
            refine wpAnyH_ready (rs := [13]) (by kernel_rfl) (by simp) ?_
            refine AllReadyH.cons (o := { dst := none, op := Op.store 42 (Operand.tmp 13) (Operand.tmp 64), type := 0, pos := "meaning.go:31", after := #[{ on := 12, ground := Ground.data }, { on := 10, ground := Ground.data }, { on := 8, ground := Ground.chain }, { on := 0, ground := Ground.phase }, { on := 1, ground := Ground.phase }, { on := 2, ground := Ground.phase }, { on := 3, ground := Ground.phase }, { on := 4, ground := Ground.phase }, { on := 5, ground := Ground.phase }, { on := 6, ground := Ground.phase }, { on := 7, ground := Ground.phase }, { on := 8, ground := Ground.phase }, { on := 9, ground := Ground.phase }, { on := 10, ground := Ground.phase }, { on := 11, ground := Ground.textOnly Departure.lateStores }, { on := 12, ground := Ground.phase }], guard := none }) rfl (fun K hK => ?_) (AllReadyH.nil)
            rw [if_pos (by rfl)]
            refine wp_store_row 42 (.tmp 13) (.tmp 64) rfl (wB.heap.size + 1) (gotC o3 (-1) 0 held3 taken3) rfl rfl 42 (gotC [] 0 0 0 0) HRG'.out HSZ.out rfl (by simp [gotC, Value.oneCell']) ?_
            have fset : Fr (fun x _ => x = wB.heap.size + 1) w7 (w7.setRow (wB.heap.size + 1) (gotC o3 (-1) 0 held3 taken3)) := (Fr.refl _ _).setRow _ _ (fun _ _ => rfl)
            have HNF := Lib.hid (show Fr No wB (w7.setRow (wB.heap.size + 1) (gotC o3 (-1) 0 held3 taken3)) from (F7.out).step fset (fun x o hx e => by have h9 := hgA; omega))
            have hcc := cell_of_row _ (wB.heap.size + 1) 0 (gotC o3 (-1) 0 held3 taken3) 42 (0, 0) (setRow_heap w7 (wB.heap.size + 1) _ (gotC o3 (-1) 0 held3 taken3) 42 _ HRG'.out)
            refine hK.out _ _ (HB4.out _ HNF.out) (fun hHeld => ?_)
            clear hK K
            refine wpAnyH_take (i := 14) (oi := { dst := some 14, op := Op.assign (Operand.tmp 65), type := 4, pos := "meaning.go:31", after := #[{ on := 11, ground := Ground.data }, { on := 13, ground := Ground.chain }, { on := 0, ground := Ground.phase }, { on := 1, ground := Ground.phase }, { on := 2, ground := Ground.phase }, { on := 3, ground := Ground.phase }, { on := 4, ground := Ground.phase }, { on := 5, ground := Ground.phase }, { on := 6, ground := Ground.phase }, { on := 7, ground := Ground.phase }, { on := 8, ground := Ground.phase }, { on := 9, ground := Ground.phase }, { on := 10, ground := Ground.phase }, { on := 11, ground := Ground.phase }, { on := 12, ground := Ground.phase }, { on := 13, ground := Ground.phase }], guard := none }) (v := ?_) rfl (by kernel_rfl) (by kernel_rfl) (by kernel_rfl) (fun _ _ _ h => h) (Or.inl ⟨by rfl, ?_⟩) (by assumption) ?_
            rotate_left
            · intro W hSw
              obtain ⟨s0, s1, s2, s3⟩ := hSw
              go_simp
              try with_reducible rfl
            simp only [Act.put, List.setIfInBounds_toArray, List.set_cons_zero, List.set_cons_succ]
            refine wpAnyH_done (by kernel_rfl) ?_ _
            refine NoPanic.normal ?_
            go_wp2_with fail
            go_meet
            case rel => exact ⟨rfl, wB.heap.size + 1, rfl, Lib.hid hcc, HNF⟩


        · go_simp
          have hgA : wB.heap.size ≤ wB.heap.size := by have h8 := (show Fr No wB wB.drew from (Fr.refl No wB).drew).size; (try simp at h8); omega
          refine hK.out _ _ (HB4.out _ (((Fr.refl No wB).drew).alloc _)) (fun hHeld => ?_)
          clear hK K
          refine wpAnyH_ready (rs := [2]) (by kernel_rfl) (by simp) ?_
          refine AllReadyH.cons (o := { dst := some 57, op := Op.buildSlice 22 0 #[], type := 22, pos := "meaning.go:31", after := #[], guard := none }) rfl (fun K hK => ?_) (AllReadyH.nil)
          go_simp
          refine hK.out _ _ (HB4.out _ ((((Fr.refl No wB).drew).alloc _).alloc _)) (fun hHeld => ?_)
          clear hK K
          refine wpAnyH_ready (rs := [4]) (by kernel_rfl) (by simp) ?_
          refine AllReadyH.cons (o := { dst := some 59, op := Op.call { callee := Callee.builtin Builtin.append, args := #[Operand.tmp 57, Operand.tmp 58], argTypes := #[22, 22] }, type := 22, pos := "meaning.go:31", after := #[{ on := 2, ground := Ground.data }, { on := 3, ground := Ground.data }], guard := none }) rfl (fun K hK => ?_) (AllReadyH.nil)
          refine step_append_sl rfl (.tmp 57) (.tmp 58) 22 22 rfl 5 j0 (.int .u8 0) 1 1 Try.underlying22 hj jz0 jz1 jz2 rfl (by decide) (.slice (some ⟨wB.heap.size + 1, 0, none⟩) 0 0) 0 [] rfl (own_of_heap 1 (heap_alloc_at (wB.drew.alloc (.cells (gotC [] 0 0 0 0) 42)) _ _ (by simp))) _ a.length (a.map bv) rfl (src_slice Try.underlying22 (by simp) (at_no HAA.out (KWB.out.trans ((((Fr.refl No wB).drew).alloc _).alloc _))) (by simp [Value.oneCell'])) (by omega) (by omega) ?_
          intro v5 w5 hown5 hfr5 hblk5
          have HO5 := Lib.hid hown5
          have F5 := Lib.hid (show Fr No wB w5 from ((((Fr.refl No wB).drew).alloc _).alloc _).step hfr5 (fun x o hx h => by have h' : some (wB.heap.size + 1) = some x := h; injection h' with h'; omega))
          have RG5 := Lib.hid (show w5.heap[wB.heap.size]? = some (.cells (gotC [] 0 0 0 0) 42 (0, 0)) from (hfr5.block _ (Array.getElem?_eq_some_iff.1 ((hold (heap_alloc_at wB.drew _ _ (by simp))))).1 (fun _ h => by have h' : some (wB.heap.size + 1) = some (wB.heap.size) := h; injection h' with h'; omega)).trans (hold (heap_alloc_at wB.drew _ _ (by simp))))
          have hb5 : ∀ x, v5.ownBlock = some x → wB.heap.size ≤ x := fun x e => by
            rcases hblk5 with h | h
            · rw [h] at e; have h' : some (wB.heap.size + 1) = some x := e; injection h' with h'; omega
            · rw [h] at e; injection e with e; (try simp at e); omega
          have hn5 : ∀ x, v5.ownBlock = some x → x ≠ wB.heap.size := fun x e => by
            rcases hblk5 with h | h
            · rw [h] at e; have h' : some (wB.heap.size + 1) = some x := e; injection h' with h'; omega
            · rw [h] at e; injection e with e; (try simp at e); omega
          have hs5 := F5.out.size
          clear hown5 hfr5 hblk5
          refine hK.out _ _ (HB4.out _ F5.out) (fun hHeld => ?_)
          clear hK K
          refine wpAnyH_ready (rs := [6]) (by kernel_rfl) (by simp) ?_
          refine AllReadyH.cons (o := { dst := some 61, op := Op.call { callee := Callee.builtin Builtin.append, args := #[Operand.tmp 59, Operand.tmp 60], argTypes := #[22, 22] }, type := 22, pos := "meaning.go:31", after := #[{ on := 4, ground := Ground.data }, { on := 5, ground := Ground.data }, { on := 4, ground := Ground.chain }], guard := none }) rfl (fun K hK => ?_) (AllReadyH.nil)
          refine step_append_sl rfl (.tmp 59) (.tmp 60) 22 22 rfl 5 j0 (.int .u8 0) 1 1 Try.underlying22 hj jz0 jz1 jz2 rfl (by decide) v5 (0 + a.length) ([] ++ a.map bv) rfl HO5.out _ b.length (b.map bv) rfl (src_slice Try.underlying22 (by simp) (at_no HBB.out (KWB.out.trans (F5.out))) (by simp [Value.oneCell'])) (by omega) (by omega) ?_
          intro v6 w6 hown6 hfr6 hblk6
          rw [Nat.zero_add, List.nil_append, ← List.map_append] at hown6
          obtain ⟨a6, c6, hv6, hat6, hle6⟩ := hown6.at
          subst hv6
          have HA6 := Lib.hid hat6
          have F6 := Lib.hid (show Fr No wB w6 from (F5.out).step hfr6 (fun x o hx h => by have h9 := hb5 x h; omega))
          have RG6 := Lib.hid (show w6.heap[wB.heap.size]? = some (.cells (gotC [] 0 0 0 0) 42 (0, 0)) from (hfr6.block _ (Array.getElem?_eq_some_iff.1 (RG5.out)).1 (fun _ h => hn5 _ h rfl)).trans RG5.out)
          have hs6 := F6.out.size
          clear hown6 hfr6 hblk6 hat6
          refine hK.out _ _ (HB4.out _ F6.out) (fun hHeld => ?_)
          clear hK K
          refine wpAnyH_ready (rs := [7]) (by kernel_rfl) (by simp) ?_
          refine AllReadyH.cons (o := { dst := some 62, op := Op.buildSlice 55 1 #[(0, Operand.tmp 61)], type := 55, pos := "meaning.go:31", after := #[{ on := 6, ground := Ground.data }], guard := none }) rfl (fun K hK => ?_) (AllReadyH.nil)
          go_simp
          refine hK.out _ _ (HB4.out _ ((F6.out).alloc _)) (fun hHeld => ?_)
          clear hK K
          have HCS := Lib.hid (fun (W : World) (f : Fr No (w6.alloc (.cells #[.slice a6 (a.length + b.length) c6] 22)) W) => (show W.cell? ⟨w6.heap.size, 0, none⟩ = some (.slice a6 (a.length + b.length) c6) from (f.at.1 _ 0 (by simp)).trans (by simp)))
          refine wpAnyH_ready (rs := [8]) (by kernel_rfl) (by simp) ?_
          refine AllReadyH.cons (o := { dst := some 63, op := Op.call { callee := Callee.value (Operand.func 47), args := #[Operand.tmp 55, Operand.tmp 56, Operand.tmp 62], argTypes := #[24, 37, 55] }, type := 67, pos := "meaning.go:31", after := #[{ on := 0, ground := Ground.data }, { on := 1, ground := Ground.data }, { on := 7, ground := Ground.data }, { on := 6, ground := Ground.chain }], guard := none }) rfl (fun K hK => ?_) (AllReadyH.nil)
          go_simp
          go_at_call 47
          refine (HT3.out _ (KWB.out.trans ((F6.out).alloc _)) (w6.heap.size) a6 c6 (by rw [List.length_append]; exact (HCS.out _ (Fr.refl _ _))) (HA6.out.fr (show Fr No w6 _ from (Fr.refl No w6).alloc _) (fun _ _ _ _ _ _ x => x)) (by rw [List.length_append]; exact hle6)).mono ?_
          rintro e7 w7 ⟨held3, taken3, rfl, hf7⟩
          go_wp2_with fail
          have F7 := Lib.hid (show Fr No wB w7 from ((F6.out).alloc _).trans hf7)
          have RG7 := Lib.hid (show w7.heap[wB.heap.size]? = some (.cells (gotC [] 0 0 0 0) 42 (0, 0)) from (hf7.block _ (Array.getElem?_eq_some_iff.1 ((hold RG6.out))).1 (fun _ h => h)).trans (hold RG6.out))
          have hs7 := F7.out.size
          clear hf7
          refine hK.out _ _ (HB4.out _ F7.out) (fun hHeld => ?_)
          clear hK K
          refine wpAnyH_take (i := 9) (oi := { dst := some 54, op := Op.move (Operand.tmp 63), type := 67, pos := "meaning.go:31", after := #[{ on := 8, ground := Ground.data }], guard := none }) (v := ?_) rfl (by kernel_rfl) (by kernel_rfl) (by kernel_rfl) (fun _ _ _ h => h) (Or.inl ⟨by rfl, ?_⟩) (by assumption) ?_
          rotate_left
          · intro W hSw
            obtain ⟨s0, s1, s2, s3⟩ := hSw
            go_simp
            try with_reducible rfl
          simp only [Act.put, List.setIfInBounds_toArray, List.set_cons_zero, List.set_cons_succ]
          refine wpAnyH_take (i := 10) (oi := { dst := some 64, op := Op.extract (Operand.tmp 54) 0, type := 42, pos := "meaning.go:31", after := #[{ on := 9, ground := Ground.data }], guard := none }) (v := ?_) rfl (by kernel_rfl) (by kernel_rfl) (by kernel_rfl) (fun _ _ _ h => h) (Or.inl ⟨by rfl, ?_⟩) (by assumption) ?_
          rotate_left
          · intro W hSw
            obtain ⟨s0, s1, s2, s3⟩ := hSw
            go_simp
            try with_reducible rfl
          simp only [Act.put, List.setIfInBounds_toArray, List.set_cons_zero, List.set_cons_succ]
          refine wpAnyH_take (i := 11) (oi := { dst := some 65, op := Op.extract (Operand.tmp 54) 1, type := 4, pos := "meaning.go:31", after := #[{ on := 9, ground := Ground.data }, { on := 13, ground := Ground.gcOnly Departure.lateStores }], guard := none }) (v := ?_) rfl (by kernel_rfl) (by kernel_rfl) (by kernel_rfl) (fun _ _ _ h => h) (Or.inl ⟨by rfl, ?_⟩) (by assumption) ?_
          rotate_left
          · intro W hSw
            obtain ⟨s0, s1, s2, s3⟩ := hSw
            go_simp
            try with_reducible rfl
          simp only [Act.put, List.setIfInBounds_toArray, List.set_cons_zero, List.set_cons_succ]
          have HRG : w7.heap[wB.heap.size]? = some (.cells (gotC [] 0 0 0 0) 42 (0, 0)) := RG7.out
          have HRG' := Lib.hid HRG; clear HRG
          refine wpAnyH_ready (rs := [13]) (by kernel_rfl) (by simp) ?_
          refine AllReadyH.cons (o := { dst := none, op := Op.store 42 (Operand.tmp 13) (Operand.tmp 64), type := 0, pos := "meaning.go:31", after := #[{ on := 12, ground := Ground.data }, { on := 10, ground := Ground.data }, { on := 8, ground := Ground.chain }, { on := 0, ground := Ground.phase }, { on := 1, ground := Ground.phase }, { on := 2, ground := Ground.phase }, { on := 3, ground := Ground.phase }, { on := 4, ground := Ground.phase }, { on := 5, ground := Ground.phase }, { on := 6, ground := Ground.phase }, { on := 7, ground := Ground.phase }, { on := 8, ground := Ground.phase }, { on := 9, ground := Ground.phase }, { on := 10, ground := Ground.phase }, { on := 11, ground := Ground.textOnly Departure.lateStores }, { on := 12, ground := Ground.phase }], guard := none }) rfl (fun K hK => ?_) (AllReadyH.nil)
          rw [if_pos (by rfl)]
          refine wp_store_row 42 (.tmp 13) (.tmp 64) rfl (wB.heap.size) (gotC o3 (-1) 0 held3 taken3) rfl rfl 42 (gotC [] 0 0 0 0) HRG'.out HSZ.out rfl (by simp [gotC, Value.oneCell']) ?_
          have fset : Fr (fun x _ => x = wB.heap.size) w7 (w7.setRow (wB.heap.size) (gotC o3 (-1) 0 held3 taken3)) := (Fr.refl _ _).setRow _ _ (fun _ _ => rfl)
          have HNF := Lib.hid (show Fr No wB (w7.setRow (wB.heap.size) (gotC o3 (-1) 0 held3 taken3)) from (F7.out).step fset (fun x o hx e => by have h9 := hgA; omega))
          have hcc := cell_of_row _ (wB.heap.size) 0 (gotC o3 (-1) 0 held3 taken3) 42 (0, 0) (setRow_heap w7 (wB.heap.size) _ (gotC o3 (-1) 0 held3 taken3) 42 _ HRG'.out)
          refine hK.out _ _ (HB4.out _ HNF.out) (fun hHeld => ?_)
          clear hK K
          refine wpAnyH_take (i := 14) (oi := { dst := some 14, op := Op.assign (Operand.tmp 65), type := 4, pos := "meaning.go:31", after := #[{ on := 11, ground := Ground.data }, { on := 13, ground := Ground.chain }, { on := 0, ground := Ground.phase }, { on := 1, ground := Ground.phase }, { on := 2, ground := Ground.phase }, { on := 3, ground := Ground.phase }, { on := 4, ground := Ground.phase }, { on := 5, ground := Ground.phase }, { on := 6, ground := Ground.phase }, { on := 7, ground := Ground.phase }, { on := 8, ground := Ground.phase }, { on := 9, ground := Ground.phase }, { on := 10, ground := Ground.phase }, { on := 11, ground := Ground.phase }, { on := 12, ground := Ground.phase }, { on := 13, ground := Ground.phase }], guard := none }) (v := ?_) rfl (by kernel_rfl) (by kernel_rfl) (by kernel_rfl) (fun _ _ _ h => h) (Or.inl ⟨by rfl, ?_⟩) (by assumption) ?_
          rotate_left
          · intro W hSw
            obtain ⟨s0, s1, s2, s3⟩ := hSw
            go_simp
            try with_reducible rfl
          simp only [Act.put, List.setIfInBounds_toArray, List.set_cons_zero, List.set_cons_succ]
          refine wpAnyH_done (by kernel_rfl) ?_ _
          refine NoPanic.normal ?_
          go_wp2_with fail
          go_meet
          case rel => exact ⟨rfl, wB.heap.size, rfl, Lib.hid hcc, HNF⟩


      case rest =>
        obtain ⟨rfl, gA, rfl, H13, HF5⟩ := hcut
        generalize wc = w5 at *
        have h13 := H13.out
        rw [HO3'.out, List.flatMap_append] at h13
        clear HO3'
        have t1 := U1.out _ HF5.out
        have t2 := U2.out _ HF5.out
        have hs := str_app (a.flatMap (becomes A B)) (b.flatMap (becomes A B))
        have hol := flat_len A B a
        have hol2 := flat_len A B b
        have hoi : ¬ (a.length : Int) < (a.flatMap (becomes A B)).length := by omega
        have hoa : ((a.flatMap (becomes A B)).length : Int) + (b.flatMap (becomes A B)).length ≤ 9223372036854775807 := by omega
        have HN0 := Lib.hid (flat_none A B a)
        have U1' := Lib.hid (fun (W : World) (f : Fr No w5 W) => U1.out W (HF5.out.trans f))
        have KW5 := Lib.hid (KWB.out.trans HF5.out)
        have HB5 := Lib.hid (fun (W : World) (f : Fr No w5 W) => HB4.out W (HF5.out.trans f))
        generalize a.flatMap (becomes A B) = o1 at *
        generalize b.flatMap (becomes A B) = o2 at *
        go_wp2_with fail
        go_loopw [15] (fun i wr => ∃ q : Nat, q ≤ a.length ∧ i = .int .i64 q ∧ Hid (∀ x ∈ a.take q, x ∉ A) ∧ Hid (Fr No w5 wr)) (fun i _ => a.length - (intOf i).toNat)
        case atStart => exact ⟨0, Nat.zero_le _, rfl, Lib.hid (by simp), Lib.hid (Fr.refl _ _)⟩
        case round =>
          obtain ⟨q, hq, rfl, HQ, HFQ⟩ := hrel
          obtain ⟨p0, p1, p2, p3⟩ := HB5.out _ HFQ.out
          by_cases hlt : q < a.length
          · have hqi : (q : Int) < a.length := by omega
            obtain ⟨ga, go, rfl, hra⟩ := HAA.out (by simp; omega)
            have hcx0 := hra.get q (bv a[q]) (by simp [hlt])
            have hgal := hra.lt (by simp; omega)
            have htk : a.take (q + 1) = a.take q ++ [a[q]] := List.take_succ_eq_append_getElem hlt
            generalize a[q] = x at *
            have HTK := Lib.hid htk; clear htk hra
            go_wp2_with fail
            go_loopw [16] (fun jv W => ∃ j : Nat, j ≤ A.length ∧ jv = .int .i64 j ∧ Hid (x ∉ A.take j) ∧ Hid (Fr No w5 W)) (fun jv _ => A.length - (intOf jv).toNat)
            case atStart => exact ⟨0, Nat.zero_le _, rfl, Lib.hid (by simp), HFQ⟩
            case round =>
              obtain ⟨j, hjl, rfl, HJ, HFJ⟩ := hrel
              obtain ⟨p0, p1, p2, p3⟩ := HB5.out _ HFJ.out
              by_cases hjt : j < A.length
              · have hji : (j : Int) < A.length := by omega
                obtain ⟨xa, oa, rfl, hrA⟩ := HA.out (by simp; omega)
                have hcA := (hrA.fr (KW5.out.trans HFJ.out) (fun _ _ e => e)).get j (bv A[j]) (by simp [hjt])
                have hcx2 : wr.cell? ⟨ga, go + q, none⟩ = some (bv x) := ((KW5.out.trans HFJ.out).at.1 ga (go + q) hgal).trans hcx0
                have htj : A.take (j + 1) = A.take j ++ [A[j]] := List.take_succ_eq_append_getElem hjt
                generalize A[j] = y at *
                have HTJ := Lib.hid htj; clear htj hrA
                by_cases hy : y = x
                · subst hy
                  go_wp2
                  go_region
                  go_wp2_with (first
                    | (go_at_call 42; refine (awake_any _).mono ?_; rintro e9 w9 ⟨rfl, hf9⟩))
                  go_ret
                  exact ⟨rfl, (KW5.out.trans HFJ.out.drew).trans hf9⟩
                · have hx1 : ((y.toNat : Int) == x.toNat) = false := by
                    simp only [beq_eq_false_iff_ne]
                    intro e; apply hy; exact UInt8.toNat.inj (by omega)
                  have hx2 : (y.toNat == x.toNat) = false := by
                    simp only [beq_eq_false_iff_ne]
                    intro e; apply hy; exact UInt8.toNat.inj (by omega)
                  have HY := Lib.hid hy; clear hy
                  go_wp2
                  go_region
                  go_wp2
                  go_roundw
                  case rel => exact ⟨j + 1, by omega, by go_num, Lib.hid (by rw [HTJ.out]; simp; exact ⟨HJ.out, fun e => HY.out e.symm⟩), Lib.hid HFJ.out.drew⟩
                  case measure => simp [intOf]; omega
              · obtain rfl : j = A.length := by omega
                rw [List.take_length] at HJ
                go_wp2
                go_roundw
                case rel => exact ⟨q + 1, by omega, by go_num, Lib.hid (fun z hz => by rw [HTK.out] at hz; rcases List.mem_append.1 hz with h | h; exact HQ.out z h; (simp at h; subst h; exact HJ.out)), HFJ⟩
                case measure => simp [intOf]; omega
          · obtain rfl : q = a.length := by omega
            rw [List.take_length] at HQ
            have hoe := HN0.out HQ.out
            have hcv := conv_at (P := Try.prog) (cap := ac) (at_no HAA.out (KW5.out.trans HFQ.out)) (src := 22) (dst := 9) Try.underlying22 Try.underlying5 Try.underlying9
            have t3 := U1'.out _ HFQ.out
            rw [hoe] at t3
            clear hoe
            go_wp2_with (first
              | (go_at_call 42; refine (awake_any _).mono ?_; rintro e9 w9 ⟨rfl, hf9⟩))
            go_ret
            exact ⟨rfl, (KW5.out.trans HFQ.out).trans hf9⟩

theorem walk_turnParts (w : World) {v0 v1 v2 v3 : Value} (k n : Int) (A B : List UInt8) (h : IsPar w v0 k n A B) (a : List UInt8) (ha : IsB w v1 a) (b : List UInt8) (hb : IsB w v2 b) (cuts : List Int) (hc : IsInts w v3 cuts) : Calls Try.prog 16 #[v0, v1, v2, v3] w (TruePost w) := by
  obtain ⟨aA, cA, aB, cB, rfl, _, hn, hA, hB, _⟩ := h
  obtain ⟨aa, ac, rfl, hac, _, ha, _⟩ := ha
  obtain ⟨ba, bc, rfl, hbc, _, hb, _⟩ := hb
  obtain ⟨ca, cc, rfl, hca⟩ := hc
  exact core_parts w k n aA aB A B cA cB aa ac a ba bc b ca cc cuts hn.2 hA hB ha hac hb hbc hca
end Go.Proofs.Ytcplbhjpefmliaa
