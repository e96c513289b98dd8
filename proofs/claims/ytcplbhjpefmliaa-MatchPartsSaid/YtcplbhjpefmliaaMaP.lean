/- MatchParts, walked. -/
import Derived.Test.YtcplbhjpefmliaaMaT
import Derived.Test.YtcplbhjpefmliaaMaLaw
import Derived.Test.YtcplbhjpefmliaaRfc
import Derived.Test.YtcplbhjpefmliaaLiftP
import Derived.Test.YtcplbhjpefmliaaLiftS
import Derived.Deep.RegionHeld3
import Derived.Deep.Cut
import Derived.Deep.DeepCutAuto
namespace Go.Proofs.Ytcplbhjpefmliaa
open Go.RowKit

/-- Lines of bytes that have ended, as the laws ask for them. -/
def LnPost (w : World) (ls : List (List UInt8)) (all : Bool) (en : Ending) (w' : World) : Prop :=
  ∃ a c, en = .returned (.tuple #[.slice a ls.length c, .bool all]) ∧ At w' a (ls.map sv) ∧ Fr No w w' ∧ ls.length ≤ c
set_option maxHeartbeats 4000000 in
set_option maxRecDepth 100000 in
theorem lines_any (a : Option Addr) (cap : Nat) (b : List UInt8) (w : World) (hr : At w a (b.map bv)) (hn : b.length ≤ 100000000) (hc : b.length ≤ cap) :
    Calls Try.prog 54 #[.slice a b.length cap] w (LnPost w (rlines b true) (rdAll b true)) := by
  have hlines := rdlines_cap a cap b true 0 0 0 w hr hn hc
  generalize rlines b true = ls at *
  generalize rdAll b true = all at *
  generalize rdErr b true (0, 0, 0) = er at *
  obtain ⟨e1, e2, e3⟩ := er
  have HLN := Lib.hid hlines; clear hlines hr
  go_enter Try.func54, Try.ntmps54
  go_wp2_with (first
    | (go_at_call 63; refine HLN.out.mono ?_; rintro en w1 ⟨a1, c1, rfl, hat1, hf1, hc1⟩
       dsimp only [rdC]
       have HAT := Lib.hid hat1; have HF := Lib.hid hf1; have HC1 := Lib.hid hc1; clear hat1 hf1 hc1))
  go_quiet (fail)
  go_wp2
  go_ret2
  have f : Fr No w1 ((w1.alloc (.cells #[.slice a1 ls.length c1, .bool all, .int .i64 e1, .int .i64 e2, .int .i64 e3] 105)).drewN nq) := ((Fr.refl No w1).alloc _).drewN nq
  exact ⟨a1, c1, rfl, at_no HAT.out f, HF.out.trans f, HC1.out⟩
theorem ma_says (n : Int) (A B : List UInt8) (b : List UInt8) (h : rlong b = false) : saysM n A B b true = (pickM A (decide (n = 1)) (rlines b true), -1, 0) := by
  unfold saysM pickM
  rw [on_says (maF A (decide (n = 1))) () (maG A (decide (n = 1))) (fun _ => rfl), h]; rfl
theorem ma_other (A : List UInt8) (h : chkR 5 0 A [] = 0) : chkR 5 1 A [] = 0 ∧ fchk 5 5 1 A [] = 0 := by
  have e : chkR 5 1 A [] = chkR 5 0 A [] := by
    unfold chkR rowR holdsR; simp [withinB]
  have h1 := e.trans h
  exact ⟨h1, by unfold fchk; rw [(agree 5 1 A [] (by decide)).1, h1]; simp⟩
theorem pick_cons (A : List UInt8) (not : Bool) (x : List UInt8) (ls : List (List UInt8)) : pickM A not (x :: ls) = (if Lib.contains x A = not then [] else x ++ [10]) ++ pickM A not ls := by
  unfold pickM maG
  rw [List.flatMap_cons, List.flatten_append]
  split <;> simp
/-- Has the text been met ahead of place j? -/
def metM (x A : List UInt8) (j : Nat) : Bool := (List.range j).any (fun i => decide ((x.drop i).take A.length = A))
theorem met_next (x A : List UInt8) (j : Nat) : metM x A (j + 1) = (metM x A j || decide ((x.drop j).take A.length = A)) := by
  unfold metM; rw [List.range_succ, List.any_append]; simp
theorem met_all (x A : List UInt8) (j : Nat) (h1 : j ≤ x.length + 1) (h2 : x.length < j + A.length) : metM x A j = Lib.contains x A := by
  cases h : metM x A j with
  | true =>
    unfold metM at h
    rw [List.any_eq_true] at h
    obtain ⟨i, hi, he⟩ := h
    rw [List.mem_range] at hi
    exact (in_yes x A i (by omega) (of_decide_eq_true he)).symm
  | false =>
    unfold metM at h
    rw [List.any_eq_false] at h
    exact (in_no x A j h2 (fun i hi e => h i (List.mem_range.2 hi) (decide_eq_true e))).symm
set_option maxHeartbeats 16000000 in
set_option maxRecDepth 100000 in
theorem core_matchParts (w : World) (hG : GM w) (aA : Option Addr) (A : List UInt8) (cA : Nat) (ba : Option Addr) (bc : Nat) (b : List UInt8) (ca : Option Addr) (cc : Nat) (cuts : List Int)
    (hA : At w aA (A.map bv)) (hb : At w ba (b.map bv)) (hbc : b.length ≤ bc) (hc : At w ca (cuts.map iv)) :
    Calls Try.prog 23 #[.slice aA A.length cA, .slice ba b.length bc, .slice ca cuts.length cc] w (TruePost w) := by
  have hsz : (Try.prog.info? 42).map (·.size) = some 12 := by kernel_rfl
  have HSZ := Lib.hid hsz
  have HG0 := Lib.hid hG
  have HA := Lib.hid hA; have HBB := Lib.hid hb; have HC := Lib.hid hc
  clear hA hb hc hsz hG
  have hhv0 := fun (W : World) (g : Nat) (hr : Row W g 0 [.slice ca cuts.length cc]) => heavy_any 5 0 aA none none (some ⟨g, 0, none⟩) A [] cA 0 0 1 [] [(ca, cuts.length, cc)] W (At.nil _ _) (fun _ => ⟨g, 0, rfl, hr⟩) (by simp)
  simp only [List.length_nil, List.length_cons, Nat.zero_add] at hhv0
  have hft0 := fun (hlA : A.length ≤ 100000000) (W : World) (hW : Fr No w W) (ai : Option Addr) (ci : Nat) => fit_any 5 0 aA none ai A [] cA 0 1 ci W (at_no HA.out hW) hlA (by simp)
  simp only [List.length_nil] at hft0
  obtain ⟨hv, hhv⟩ : ∃ x, x = heavyB A [] [] [(ca, cuts.length, cc)] := ⟨_, rfl⟩
  obtain ⟨ft, hft⟩ : ∃ x, x = fitB 5 5 0 A [] 1 := ⟨_, rfl⟩
  rw [← hhv] at hhv0
  rw [← hft] at hft0
  have HHV := Lib.hid hhv0
  have HHD := Lib.hid hhv.symm; have HFD := Lib.hid hft.symm
  clear hhv0 hhv hft
  obtain ⟨G, HG⟩ : ∃ G : Bool, Hid (G = (hv || decide (2000 < b.length) || !ft)) := ⟨_, Lib.hid rfl⟩
  have HW1 := Lib.hid (((Fr.refl No w).alloc (.cells #[.int .i64 5, .int .i64 0, .slice aA A.length cA, .slice none 0 0] 24)).alloc (.cells #[.int .i64 5, .int .i64 1, .slice aA A.length cA, .slice none 0 0] 24))
  have H4 := Lib.hid (fun (W : World) (f : Fr No ((w.alloc (.cells #[.int .i64 5, .int .i64 0, .slice aA A.length cA, .slice none 0 0] 24)).alloc (.cells #[.int .i64 5, .int .i64 1, .slice aA A.length cA, .slice none 0 0] 24)) W) => (show W.cell? ⟨w.heap.size, 0, none⟩ = some (.int .i64 5) ∧ W.cell? ⟨w.heap.size, 1, none⟩ = some (.int .i64 0) ∧ W.cell? ⟨w.heap.size, 2, none⟩ = some (.slice aA A.length cA) ∧ W.cell? ⟨w.heap.size, 3, none⟩ = some (.slice none 0 0) from
    have x1 := (box_at (((Fr.refl No _).alloc _).trans f)).1
    ⟨x1 0, x1 1, x1 2, x1 3⟩))
  have H5 := Lib.hid (fun (W : World) (f : Fr No ((w.alloc (.cells #[.int .i64 5, .int .i64 0, .slice aA A.length cA, .slice none 0 0] 24)).alloc (.cells #[.int .i64 5, .int .i64 1, .slice aA A.length cA, .slice none 0 0] 24)) W) => (show W.cell? ⟨w.heap.size + 1, 0, none⟩ = some (.int .i64 5) ∧ W.cell? ⟨w.heap.size + 1, 1, none⟩ = some (.int .i64 1) ∧ W.cell? ⟨w.heap.size + 1, 2, none⟩ = some (.slice aA A.length cA) ∧ W.cell? ⟨w.heap.size + 1, 3, none⟩ = some (.slice none 0 0) from by
    have x1 := (box_at f).1
    have e : (w.alloc (.cells #[.int .i64 5, .int .i64 0, .slice aA A.length cA, .slice none 0 0] 24)).heap.size = w.heap.size + 1 := by simp
    rw [e] at x1
    exact ⟨x1 0, x1 1, x1 2, x1 3⟩))
  go_enter Try.func23, Try.ntmps23
  go_upto_region 3 with fail
  go_cut [39] from 25 (fun s39 wx => s39 = .bool G ∧ Hid (Fr No ((w.alloc (.cells #[.int .i64 5, .int .i64 0, .slice aA A.length cA, .slice none 0 0] 24)).alloc (.cells #[.int .i64 5, .int .i64 1, .slice aA A.length cA, .slice none 0 0] 24)) wx))
  case first =>
    cases hv with
    | true =>
      have HGG := Lib.hid (show G = true from by rw [HG.out]; rfl)
      clear hft0
      refine wp_region_noPanic ?_
      refine wp_region_held_drew (S := (fun W => W.cell? ⟨w.heap.size, 0, none⟩ = some (.int .i64 5) ∧ W.cell? ⟨w.heap.size, 1, none⟩ = some (.int .i64 0) ∧ W.cell? ⟨w.heap.size, 2, none⟩ = some (.slice aA A.length cA) ∧ W.cell? ⟨w.heap.size, 3, none⟩ = some (.slice none 0 0))) (by kernel_rfl) (H4.out _ (Fr.refl _ _).drew) (fun hHeld => ?_)
      refine wpAnyH_take (i := 0) (oi := { dst := some 25, op := Op.load 24 (Operand.tmp 7), type := 24, pos := "meaning.go:34", after := #[], guard := none }) (v := ?_) rfl (by kernel_rfl) (by kernel_rfl) (by kernel_rfl) (fun _ _ _ h => h) (Or.inl ⟨by rfl, ?_⟩) (by assumption) ?_
      rotate_left
      · intro W hSw
        obtain ⟨s0, s1, s2, s3⟩ := hSw
        go_simp
        try with_reducible rfl
      simp only [Act.put, List.setIfInBounds_toArray, List.set_cons_zero, List.set_cons_succ]
      refine wpAnyH_take (i := 1) (oi := { dst := some 26, op := Op.move (Operand.tmp 2), type := 37, pos := "meaning.go:34", after := #[], guard := none }) (v := ?_) rfl (by kernel_rfl) (by kernel_rfl) (by kernel_rfl) (fun _ _ _ h => h) (Or.inl ⟨by rfl, ?_⟩) (by assumption) ?_
      rotate_left
      · intro W hSw
        obtain ⟨s0, s1, s2, s3⟩ := hSw
        go_simp
        try with_reducible rfl
      simp only [Act.put, List.setIfInBounds_toArray, List.set_cons_zero, List.set_cons_succ]
      refine wpAnyH_ready (rs := [2]) (by kernel_rfl) (by simp) ?_
      refine AllReadyH.cons (o := { dst := some 27, op := Op.buildSlice 79 1 #[(0, Operand.tmp 26)], type := 79, pos := "meaning.go:34", after := #[{ on := 1, ground := Ground.data }], guard := none }) rfl (fun K hK => ?_) (AllReadyH.nil)
      go_simp
      refine hK.out _ _ (H4.out _ ((Fr.refl _ _).drew.alloc _)) (fun hHeld => ?_)
      clear hK K
      refine wpAnyH_ready (rs := [3]) (by kernel_rfl) (by simp) ?_
      refine AllReadyH.cons (o := { dst := some 28, op := Op.call { callee := Callee.value (Operand.func 48), args := #[Operand.tmp 25, Operand.const (Value.slice none 0 0), Operand.tmp 27], argTypes := #[24, 36, 79] }, type := 4, pos := "meaning.go:34", after := #[{ on := 0, ground := Ground.data }, { on := 2, ground := Ground.data }], guard := none }) rfl (fun K hK => ?_) (AllReadyH.nil)
      go_simp
      go_at_call 48
      refine (HHV.out (((w.alloc (.cells #[.int .i64 5, .int .i64 0, .slice aA A.length cA, .slice none 0 0] 24)).alloc (.cells #[.int .i64 5, .int .i64 1, .slice aA A.length cA, .slice none 0 0] 24)).drew.alloc (.cells #[.slice ca cuts.length cc] 37)) (w.heap.size + 1 + 1) (row_at _ #[.slice ca cuts.length cc] _ rfl _ (by simp) 37 (0, 0))).mono ?_
      rintro e1 w1 ⟨rfl, hf1⟩
      go_wp2_with fail
      refine hK.out _ _ (H4.out _ (((Fr.refl _ _).drew.alloc _).trans hf1)) (fun hHeld => ?_)
      clear hK K
      refine wpAnyH_take (i := 4) (oi := { dst := some 29, op := Op.move (Operand.tmp 28), type := 4, pos := "meaning.go:34", after := #[{ on := 3, ground := Ground.data }, { on := 3, ground := Ground.chain }], guard := none }) (v := ?_) rfl (by kernel_rfl) (by kernel_rfl) (by kernel_rfl) (fun _ _ _ h => h) (Or.inl ⟨by rfl, ?_⟩) (by assumption) ?_
      rotate_left
      · intro W hSw
        obtain ⟨s0, s1, s2, s3⟩ := hSw
        go_simp
        try with_reducible rfl
      simp only [Act.put, List.setIfInBounds_toArray, List.set_cons_zero, List.set_cons_succ]
      refine wpAnyH_take (i := 5) (oi := { dst := some 30, op := Op.move (Operand.tmp 1), type := 22, pos := "meaning.go:34", after := #[{ on := 4, ground := Ground.guard }], guard := some (4, false) }) (v := undef) rfl (by kernel_rfl) (by kernel_rfl) (by kernel_rfl) (fun _ _ _ h => h) (Or.inr ⟨by rfl, rfl⟩) (by assumption) ?_
      simp only [Act.put, List.setIfInBounds_toArray, List.set_cons_zero, List.set_cons_succ]
      refine wpAnyH_take (i := 6) (oi := { dst := some 31, op := Op.call { callee := Callee.builtin Builtin.len, args := #[Operand.tmp 30], argTypes := #[22] }, type := 3, pos := "meaning.go:34", after := #[{ on := 5, ground := Ground.data }, { on := 4, ground := Ground.guard }], guard := some (4, false) }) (v := undef) rfl (by kernel_rfl) (by kernel_rfl) (by kernel_rfl) (fun _ _ _ h => h) (Or.inr ⟨by rfl, rfl⟩) (by assumption) ?_
      simp only [Act.put, List.setIfInBounds_toArray, List.set_cons_zero, List.set_cons_succ]
      refine wpAnyH_take (i := 7) (oi := { dst := some 32, op := Op.binOp BinOp.gtr 3 (Operand.tmp 31) (Operand.const (Value.int IntKind.i64 2000)) 3, type := 4, pos := "meaning.go:34", after := #[{ on := 6, ground := Ground.data }, { on := 4, ground := Ground.guard }], guard := some (4, false) }) (v := undef) rfl (by kernel_rfl) (by kernel_rfl) (by kernel_rfl) (fun _ _ _ h => h) (Or.inr ⟨by rfl, rfl⟩) (by assumption) ?_
      simp only [Act.put, List.setIfInBounds_toArray, List.set_cons_zero, List.set_cons_succ]
      refine wpAnyH_take (i := 8) (oi := { dst := some 33, op := Op.pick (Operand.tmp 29) (Operand.const (Value.bool true)) (Operand.tmp 32), type := 4, pos := "meaning.go:34", after := #[{ on := 4, ground := Ground.data }, { on := 7, ground := Ground.data }], guard := none }) (v := ?_) rfl (by kernel_rfl) (by kernel_rfl) (by kernel_rfl) (fun _ _ _ h => h) (Or.inl ⟨by rfl, ?_⟩) (by assumption) ?_
      rotate_left
      · intro W hSw
        obtain ⟨s0, s1, s2, s3⟩ := hSw
        go_simp
        try with_reducible rfl
      simp only [Act.put, List.setIfInBounds_toArray, List.set_cons_zero, List.set_cons_succ]
      refine wpAnyH_take (i := 9) (oi := { dst := some 34, op := Op.move (Operand.tmp 33), type := 4, pos := "meaning.go:34", after := #[{ on := 8, ground := Ground.data }, { on := 4, ground := Ground.chain }], guard := none }) (v := ?_) rfl (by kernel_rfl) (by kernel_rfl) (by kernel_rfl) (fun _ _ _ h => h) (Or.inl ⟨by rfl, ?_⟩) (by assumption) ?_
      rotate_left
      · intro W hSw
        obtain ⟨s0, s1, s2, s3⟩ := hSw
        go_simp
        try with_reducible rfl
      simp only [Act.put, List.setIfInBounds_toArray, List.set_cons_zero, List.set_cons_succ]
      refine wpAnyH_take (i := 10) (oi := { dst := some 35, op := Op.load 24 (Operand.tmp 7), type := 24, pos := "meaning.go:34", after := #[{ on := 9, ground := Ground.guard }], guard := some (9, false) }) (v := undef) rfl (by kernel_rfl) (by kernel_rfl) (by kernel_rfl) (fun _ _ _ h => h) (Or.inr ⟨by rfl, rfl⟩) (by assumption) ?_
      simp only [Act.put, List.setIfInBounds_toArray, List.set_cons_zero, List.set_cons_succ]
      refine wpAnyH_take (i := 11) (oi := { dst := some 36, op := Op.makeSlice 36 (Operand.const (Value.int IntKind.i64 1)) (Operand.const (Value.int IntKind.i64 1)), type := 36, pos := "meaning.go:34", after := #[{ on := 9, ground := Ground.guard }], guard := some (9, false) }) (v := undef) rfl (by kernel_rfl) (by kernel_rfl) (by kernel_rfl) (fun _ _ _ h => h) (Or.inr ⟨by rfl, rfl⟩) (by assumption) ?_
      simp only [Act.put, List.setIfInBounds_toArray, List.set_cons_zero, List.set_cons_succ]
      refine wpAnyH_take (i := 12) (oi := { dst := some 37, op := Op.call { callee := Callee.value (Operand.func 51), args := #[Operand.tmp 35, Operand.tmp 36], argTypes := #[24, 36] }, type := 4, pos := "meaning.go:34", after := #[{ on := 10, ground := Ground.data }, { on := 11, ground := Ground.data }, { on := 9, ground := Ground.chain }, { on := 9, ground := Ground.guard }], guard := some (9, false) }) (v := undef) rfl (by kernel_rfl) (by kernel_rfl) (by kernel_rfl) (fun _ _ _ h => h) (Or.inr ⟨by rfl, rfl⟩) (by assumption) ?_
      simp only [Act.put, List.setIfInBounds_toArray, List.set_cons_zero, List.set_cons_succ]
      refine wpAnyH_take (i := 13) (oi := { dst := some 38, op := Op.unOp UnOp.not 4 (Operand.tmp 37), type := 4, pos := "meaning.go:34", after := #[{ on := 12, ground := Ground.data }, { on := 9, ground := Ground.guard }], guard := some (9, false) }) (v := undef) rfl (by kernel_rfl) (by kernel_rfl) (by kernel_rfl) (fun _ _ _ h => h) (Or.inr ⟨by rfl, rfl⟩) (by assumption) ?_
      simp only [Act.put, List.setIfInBounds_toArray, List.set_cons_zero, List.set_cons_succ]
      refine wpAnyH_take (i := 14) (oi := { dst := some 39, op := Op.pick (Operand.tmp 34) (Operand.const (Value.bool true)) (Operand.tmp 38), type := 4, pos := "meaning.go:34", after := #[{ on := 9, ground := Ground.data }, { on := 13, ground := Ground.data }], guard := none }) (v := ?_) rfl (by kernel_rfl) (by kernel_rfl) (by kernel_rfl) (fun _ _ _ h => h) (Or.inl ⟨by rfl, ?_⟩) (by assumption) ?_
      rotate_left
      · intro W hSw
        obtain ⟨s0, s1, s2, s3⟩ := hSw
        go_simp
        try with_reducible rfl
      simp only [Act.put, List.setIfInBounds_toArray, List.set_cons_zero, List.set_cons_succ]
      refine wpAnyH_done (by kernel_rfl) ?_ _
      refine NoPanic.normal ?_
      go_wp2_with fail
      go_meet
      case rel => exact ⟨by rw [HGG.out], Lib.hid (((Fr.refl _ _).drew.alloc _).trans hf1)⟩

    | false =>
      have hh : ¬ (1000 < A.length ∨ 1000 < ([] : List UInt8).length ∨ 8 < ([] : List Strm).length ∨ (∃ s ∈ ([] : List Strm), 2000 < s.b.length) ∨ (∃ c ∈ [(ca, cuts.length, cc)], 3000 < c.2.1)) := by
        have := HHD.out; unfold heavyB at this; exact of_decide_eq_false this
      have hlA : A.length ≤ 100000000 := by rw [not_or] at hh; omega
      clear hh
      have HFT := Lib.hid (hft0 hlA)
      clear hft0
      by_cases hak : 2000 < b.length
      · have hai : (2000 : Int) < b.length := by omega
        have HGG := Lib.hid (show G = true from by rw [HG.out]; simp [hak])
        clear hak
        refine wp_region_noPanic ?_
        refine wp_region_held_drew (S := (fun W => W.cell? ⟨w.heap.size, 0, none⟩ = some (.int .i64 5) ∧ W.cell? ⟨w.heap.size, 1, none⟩ = some (.int .i64 0) ∧ W.cell? ⟨w.heap.size, 2, none⟩ = some (.slice aA A.length cA) ∧ W.cell? ⟨w.heap.size, 3, none⟩ = some (.slice none 0 0))) (by kernel_rfl) (H4.out _ (Fr.refl _ _).drew) (fun hHeld => ?_)
        refine wpAnyH_take (i := 0) (oi := { dst := some 25, op := Op.load 24 (Operand.tmp 7), type := 24, pos := "meaning.go:34", after := #[], guard := none }) (v := ?_) rfl (by kernel_rfl) (by kernel_rfl) (by kernel_rfl) (fun _ _ _ h => h) (Or.inl ⟨by rfl, ?_⟩) (by assumption) ?_
        rotate_left
        · intro W hSw
          obtain ⟨s0, s1, s2, s3⟩ := hSw
          go_simp
          try with_reducible rfl
        simp only [Act.put, List.setIfInBounds_toArray, List.set_cons_zero, List.set_cons_succ]
        refine wpAnyH_take (i := 1) (oi := { dst := some 26, op := Op.move (Operand.tmp 2), type := 37, pos := "meaning.go:34", after := #[], guard := none }) (v := ?_) rfl (by kernel_rfl) (by kernel_rfl) (by kernel_rfl) (fun _ _ _ h => h) (Or.inl ⟨by rfl, ?_⟩) (by assumption) ?_
        rotate_left
        · intro W hSw
          obtain ⟨s0, s1, s2, s3⟩ := hSw
          go_simp
          try with_reducible rfl
        simp only [Act.put, List.setIfInBounds_toArray, List.set_cons_zero, List.set_cons_succ]
        refine wpAnyH_ready (rs := [2]) (by kernel_rfl) (by simp) ?_
        refine AllReadyH.cons (o := { dst := some 27, op := Op.buildSlice 79 1 #[(0, Operand.tmp 26)], type := 79, pos := "meaning.go:34", after := #[{ on := 1, ground := Ground.data }], guard := none }) rfl (fun K hK => ?_) (AllReadyH.nil)
        go_simp
        refine hK.out _ _ (H4.out _ ((Fr.refl _ _).drew.alloc _)) (fun hHeld => ?_)
        clear hK K
        refine wpAnyH_ready (rs := [3]) (by kernel_rfl) (by simp) ?_
        refine AllReadyH.cons (o := { dst := some 28, op := Op.call { callee := Callee.value (Operand.func 48), args := #[Operand.tmp 25, Operand.const (Value.slice none 0 0), Operand.tmp 27], argTypes := #[24, 36, 79] }, type := 4, pos := "meaning.go:34", after := #[{ on := 0, ground := Ground.data }, { on := 2, ground := Ground.data }], guard := none }) rfl (fun K hK => ?_) (AllReadyH.nil)
        go_simp
        go_at_call 48
        refine (HHV.out (((w.alloc (.cells #[.int .i64 5, .int .i64 0, .slice aA A.length cA, .slice none 0 0] 24)).alloc (.cells #[.int .i64 5, .int .i64 1, .slice aA A.length cA, .slice none 0 0] 24)).drew.alloc (.cells #[.slice ca cuts.length cc] 37)) (w.heap.size + 1 + 1) (row_at _ #[.slice ca cuts.length cc] _ rfl _ (by simp) 37 (0, 0))).mono ?_
        rintro e1 w1 ⟨rfl, hf1⟩
        go_wp2_with fail
        refine hK.out _ _ (H4.out _ (((Fr.refl _ _).drew.alloc _).trans hf1)) (fun hHeld => ?_)
        clear hK K
        refine wpAnyH_take (i := 4) (oi := { dst := some 29, op := Op.move (Operand.tmp 28), type := 4, pos := "meaning.go:34", after := #[{ on := 3, ground := Ground.data }, { on := 3, ground := Ground.chain }], guard := none }) (v := ?_) rfl (by kernel_rfl) (by kernel_rfl) (by kernel_rfl) (fun _ _ _ h => h) (Or.inl ⟨by rfl, ?_⟩) (by assumption) ?_
        rotate_left
        · intro W hSw
          obtain ⟨s0, s1, s2, s3⟩ := hSw
          go_simp
          try with_reducible rfl
        simp only [Act.put, List.setIfInBounds_toArray, List.set_cons_zero, List.set_cons_succ]
        refine wpAnyH_take (i := 5) (oi := { dst := some 30, op := Op.move (Operand.tmp 1), type := 22, pos := "meaning.go:34", after := #[{ on := 4, ground := Ground.guard }], guard := some (4, false) }) (v := ?_) rfl (by kernel_rfl) (by kernel_rfl) (by kernel_rfl) (fun _ _ _ h => h) (Or.inl ⟨by rfl, ?_⟩) (by assumption) ?_
        rotate_left
        · intro W hSw
          obtain ⟨s0, s1, s2, s3⟩ := hSw
          go_simp
          try with_reducible rfl
        simp only [Act.put, List.setIfInBounds_toArray, List.set_cons_zero, List.set_cons_succ]
        refine wpAnyH_take (i := 6) (oi := { dst := some 31, op := Op.call { callee := Callee.builtin Builtin.len, args := #[Operand.tmp 30], argTypes := #[22] }, type := 3, pos := "meaning.go:34", after := #[{ on := 5, ground := Ground.data }, { on := 4, ground := Ground.guard }], guard := some (4, false) }) (v := ?_) rfl (by kernel_rfl) (by kernel_rfl) (by kernel_rfl) (fun _ _ _ h => h) (Or.inl ⟨by rfl, ?_⟩) (by assumption) ?_
        rotate_left
        · intro W hSw
          obtain ⟨s0, s1, s2, s3⟩ := hSw
          go_simp
          try with_reducible rfl
        simp only [Act.put, List.setIfInBounds_toArray, List.set_cons_zero, List.set_cons_succ]
        refine wpAnyH_take (i := 7) (oi := { dst := some 32, op := Op.binOp BinOp.gtr 3 (Operand.tmp 31) (Operand.const (Value.int IntKind.i64 2000)) 3, type := 4, pos := "meaning.go:34", after := #[{ on := 6, ground := Ground.data }, { on := 4, ground := Ground.guard }], guard := some (4, false) }) (v := ?_) rfl (by kernel_rfl) (by kernel_rfl) (by kernel_rfl) (fun _ _ _ h => h) (Or.inl ⟨by rfl, ?_⟩) (by assumption) ?_
        rotate_left
        · intro W hSw
          obtain ⟨s0, s1, s2, s3⟩ := hSw
          go_simp
          try with_reducible rfl
        simp only [Act.put, List.setIfInBounds_toArray, List.set_cons_zero, List.set_cons_succ]
        refine wpAnyH_take (i := 8) (oi := { dst := some 33, op := Op.pick (Operand.tmp 29) (Operand.const (Value.bool true)) (Operand.tmp 32), type := 4, pos := "meaning.go:34", after := #[{ on := 4, ground := Ground.data }, { on := 7, ground := Ground.data }], guard := none }) (v := ?_) rfl (by kernel_rfl) (by kernel_rfl) (by kernel_rfl) (fun _ _ _ h => h) (Or.inl ⟨by rfl, ?_⟩) (by assumption) ?_
        rotate_left
        · intro W hSw
          obtain ⟨s0, s1, s2, s3⟩ := hSw
          go_simp
          try with_reducible rfl
        simp only [Act.put, List.setIfInBounds_toArray, List.set_cons_zero, List.set_cons_succ]
        refine wpAnyH_take (i := 9) (oi := { dst := some 34, op := Op.move (Operand.tmp 33), type := 4, pos := "meaning.go:34", after := #[{ on := 8, ground := Ground.data }, { on := 4, ground := Ground.chain }], guard := none }) (v := ?_) rfl (by kernel_rfl) (by kernel_rfl) (by kernel_rfl) (fun _ _ _ h => h) (Or.inl ⟨by rfl, ?_⟩) (by assumption) ?_
        rotate_left
        · intro W hSw
          obtain ⟨s0, s1, s2, s3⟩ := hSw
          go_simp
          try with_reducible rfl
        simp only [Act.put, List.setIfInBounds_toArray, List.set_cons_zero, List.set_cons_succ]
        refine wpAnyH_take (i := 10) (oi := { dst := some 35, op := Op.load 24 (Operand.tmp 7), type := 24, pos := "meaning.go:34", after := #[{ on := 9, ground := Ground.guard }], guard := some (9, false) }) (v := undef) rfl (by kernel_rfl) (by kernel_rfl) (by kernel_rfl) (fun _ _ _ h => h) (Or.inr ⟨by rfl, rfl⟩) (by assumption) ?_
        simp only [Act.put, List.setIfInBounds_toArray, List.set_cons_zero, List.set_cons_succ]
        refine wpAnyH_take (i := 11) (oi := { dst := some 36, op := Op.makeSlice 36 (Operand.const (Value.int IntKind.i64 1)) (Operand.const (Value.int IntKind.i64 1)), type := 36, pos := "meaning.go:34", after := #[{ on := 9, ground := Ground.guard }], guard := some (9, false) }) (v := undef) rfl (by kernel_rfl) (by kernel_rfl) (by kernel_rfl) (fun _ _ _ h => h) (Or.inr ⟨by rfl, rfl⟩) (by assumption) ?_
        simp only [Act.put, List.setIfInBounds_toArray, List.set_cons_zero, List.set_cons_succ]
        refine wpAnyH_take (i := 12) (oi := { dst := some 37, op := Op.call { callee := Callee.value (Operand.func 51), args := #[Operand.tmp 35, Operand.tmp 36], argTypes := #[24, 36] }, type := 4, pos := "meaning.go:34", after := #[{ on := 10, ground := Ground.data }, { on := 11, ground := Ground.data }, { on := 9, ground := Ground.chain }, { on := 9, ground := Ground.guard }], guard := some (9, false) }) (v := undef) rfl (by kernel_rfl) (by kernel_rfl) (by kernel_rfl) (fun _ _ _ h => h) (Or.inr ⟨by rfl, rfl⟩) (by assumption) ?_
        simp only [Act.put, List.setIfInBounds_toArray, List.set_cons_zero, List.set_cons_succ]
        refine wpAnyH_take (i := 13) (oi := { dst := some 38, op := Op.unOp UnOp.not 4 (Operand.tmp 37), type := 4, pos := "meaning.go:34", after := #[{ on := 12, ground := Ground.data }, { on := 9, ground := Ground.guard }], guard := some (9, false) }) (v := undef) rfl (by kernel_rfl) (by kernel_rfl) (by kernel_rfl) (fun _ _ _ h => h) (Or.inr ⟨by rfl, rfl⟩) (by assumption) ?_
        simp only [Act.put, List.setIfInBounds_toArray, List.set_cons_zero, List.set_cons_succ]
        refine wpAnyH_take (i := 14) (oi := { dst := some 39, op := Op.pick (Operand.tmp 34) (Operand.const (Value.bool true)) (Operand.tmp 38), type := 4, pos := "meaning.go:34", after := #[{ on := 9, ground := Ground.data }, { on := 13, ground := Ground.data }], guard := none }) (v := ?_) rfl (by kernel_rfl) (by kernel_rfl) (by kernel_rfl) (fun _ _ _ h => h) (Or.inl ⟨by rfl, ?_⟩) (by assumption) ?_
        rotate_left
        · intro W hSw
          obtain ⟨s0, s1, s2, s3⟩ := hSw
          go_simp
          try with_reducible rfl
        simp only [Act.put, List.setIfInBounds_toArray, List.set_cons_zero, List.set_cons_succ]
        refine wpAnyH_done (by kernel_rfl) ?_ _
        refine NoPanic.normal ?_
        go_wp2_with fail
        go_meet
        case rel => exact ⟨by rw [HGG.out], Lib.hid (((Fr.refl _ _).drew.alloc _).trans hf1)⟩

      · have hai : decide ((2000 : Int) < b.length) = false := decide_eq_false (by omega)
        have HGG := Lib.hid (show G = !ft from by rw [HG.out]; simp [hak])
        clear hak
        refine wp_region_noPanic ?_
        refine wp_region_held_drew (S := (fun W => W.cell? ⟨w.heap.size, 0, none⟩ = some (.int .i64 5) ∧ W.cell? ⟨w.heap.size, 1, none⟩ = some (.int .i64 0) ∧ W.cell? ⟨w.heap.size, 2, none⟩ = some (.slice aA A.length cA) ∧ W.cell? ⟨w.heap.size, 3, none⟩ = some (.slice none 0 0))) (by kernel_rfl) (H4.out _ (Fr.refl _ _).drew) (fun hHeld => ?_)
        refine wpAnyH_take (i := 0) (oi := { dst := some 25, op := Op.load 24 (Operand.tmp 7), type := 24, pos := "meaning.go:34", after := #[], guard := none }) (v := ?_) rfl (by kernel_rfl) (by kernel_rfl) (by kernel_rfl) (fun _ _ _ h => h) (Or.inl ⟨by rfl, ?_⟩) (by assumption) ?_
        rotate_left
        · intro W hSw
          obtain ⟨s0, s1, s2, s3⟩ := hSw
          go_simp
          try with_reducible rfl
        simp only [Act.put, List.setIfInBounds_toArray, List.set_cons_zero, List.set_cons_succ]
        refine wpAnyH_take (i := 1) (oi := { dst := some 26, op := Op.move (Operand.tmp 2), type := 37, pos := "meaning.go:34", after := #[], guard := none }) (v := ?_) rfl (by kernel_rfl) (by kernel_rfl) (by kernel_rfl) (fun _ _ _ h => h) (Or.inl ⟨by rfl, ?_⟩) (by assumption) ?_
        rotate_left
        · intro W hSw
          obtain ⟨s0, s1, s2, s3⟩ := hSw
          go_simp
          try with_reducible rfl
        simp only [Act.put, List.setIfInBounds_toArray, List.set_cons_zero, List.set_cons_succ]
        refine wpAnyH_ready (rs := [2]) (by kernel_rfl) (by simp) ?_
        refine AllReadyH.cons (o := { dst := some 27, op := Op.buildSlice 79 1 #[(0, Operand.tmp 26)], type := 79, pos := "meaning.go:34", after := #[{ on := 1, ground := Ground.data }], guard := none }) rfl (fun K hK => ?_) (AllReadyH.nil)
        go_simp
        refine hK.out _ _ (H4.out _ ((Fr.refl _ _).drew.alloc _)) (fun hHeld => ?_)
        clear hK K
        refine wpAnyH_ready (rs := [3]) (by kernel_rfl) (by simp) ?_
        refine AllReadyH.cons (o := { dst := some 28, op := Op.call { callee := Callee.value (Operand.func 48), args := #[Operand.tmp 25, Operand.const (Value.slice none 0 0), Operand.tmp 27], argTypes := #[24, 36, 79] }, type := 4, pos := "meaning.go:34", after := #[{ on := 0, ground := Ground.data }, { on := 2, ground := Ground.data }], guard := none }) rfl (fun K hK => ?_) (AllReadyH.nil)
        go_simp
        go_at_call 48
        refine (HHV.out (((w.alloc (.cells #[.int .i64 5, .int .i64 0, .slice aA A.length cA, .slice none 0 0] 24)).alloc (.cells #[.int .i64 5, .int .i64 1, .slice aA A.length cA, .slice none 0 0] 24)).drew.alloc (.cells #[.slice ca cuts.length cc] 37)) (w.heap.size + 1 + 1) (row_at _ #[.slice ca cuts.length cc] _ rfl _ (by simp) 37 (0, 0))).mono ?_
        rintro e1 w1 ⟨rfl, hf1⟩
        go_wp2_with fail
        refine hK.out _ _ (H4.out _ (((Fr.refl _ _).drew.alloc _).trans hf1)) (fun hHeld => ?_)
        clear hK K
        refine wpAnyH_take (i := 4) (oi := { dst := some 29, op := Op.move (Operand.tmp 28), type := 4, pos := "meaning.go:34", after := #[{ on := 3, ground := Ground.data }, { on := 3, ground := Ground.chain }], guard := none }) (v := ?_) rfl (by kernel_rfl) (by kernel_rfl) (by kernel_rfl) (fun _ _ _ h => h) (Or.inl ⟨by rfl, ?_⟩) (by assumption) ?_
        rotate_left
        · intro W hSw
          obtain ⟨s0, s1, s2, s3⟩ := hSw
          go_simp
          try with_reducible rfl
        simp only [Act.put, List.setIfInBounds_toArray, List.set_cons_zero, List.set_cons_succ]
        refine wpAnyH_take (i := 5) (oi := { dst := some 30, op := Op.move (Operand.tmp 1), type := 22, pos := "meaning.go:34", after := #[{ on := 4, ground := Ground.guard }], guard := some (4, false) }) (v := ?_) rfl (by kernel_rfl) (by kernel_rfl) (by kernel_rfl) (fun _ _ _ h => h) (Or.inl ⟨by rfl, ?_⟩) (by assumption) ?_
        rotate_left
        · intro W hSw
          obtain ⟨s0, s1, s2, s3⟩ := hSw
          go_simp
          try with_reducible rfl
        simp only [Act.put, List.setIfInBounds_toArray, List.set_cons_zero, List.set_cons_succ]
        refine wpAnyH_take (i := 6) (oi := { dst := some 31, op := Op.call { callee := Callee.builtin Builtin.len, args := #[Operand.tmp 30], argTypes := #[22] }, type := 3, pos := "meaning.go:34", after := #[{ on := 5, ground := Ground.data }, { on := 4, ground := Ground.guard }], guard := some (4, false) }) (v := ?_) rfl (by kernel_rfl) (by kernel_rfl) (by kernel_rfl) (fun _ _ _ h => h) (Or.inl ⟨by rfl, ?_⟩) (by assumption) ?_
        rotate_left
        · intro W hSw
          obtain ⟨s0, s1, s2, s3⟩ := hSw
          go_simp
          try with_reducible rfl
        simp only [Act.put, List.setIfInBounds_toArray, List.set_cons_zero, List.set_cons_succ]
        refine wpAnyH_take (i := 7) (oi := { dst := some 32, op := Op.binOp BinOp.gtr 3 (Operand.tmp 31) (Operand.const (Value.int IntKind.i64 2000)) 3, type := 4, pos := "meaning.go:34", after := #[{ on := 6, ground := Ground.data }, { on := 4, ground := Ground.guard }], guard := some (4, false) }) (v := ?_) rfl (by kernel_rfl) (by kernel_rfl) (by kernel_rfl) (fun _ _ _ h => h) (Or.inl ⟨by rfl, ?_⟩) (by assumption) ?_
        rotate_left
        · intro W hSw
          obtain ⟨s0, s1, s2, s3⟩ := hSw
          go_simp
          try with_reducible rfl
        simp only [Act.put, List.setIfInBounds_toArray, List.set_cons_zero, List.set_cons_succ]
        refine wpAnyH_take (i := 8) (oi := { dst := some 33, op := Op.pick (Operand.tmp 29) (Operand.const (Value.bool true)) (Operand.tmp 32), type := 4, pos := "meaning.go:34", after := #[{ on := 4, ground := Ground.data }, { on := 7, ground := Ground.data }], guard := none }) (v := ?_) rfl (by kernel_rfl) (by kernel_rfl) (by kernel_rfl) (fun _ _ _ h => h) (Or.inl ⟨by rfl, ?_⟩) (by assumption) ?_
        rotate_left
        · intro W hSw
          obtain ⟨s0, s1, s2, s3⟩ := hSw
          go_simp
          try with_reducible rfl
        simp only [Act.put, List.setIfInBounds_toArray, List.set_cons_zero, List.set_cons_succ]
        refine wpAnyH_take (i := 9) (oi := { dst := some 34, op := Op.move (Operand.tmp 33), type := 4, pos := "meaning.go:34", after := #[{ on := 8, ground := Ground.data }, { on := 4, ground := Ground.chain }], guard := none }) (v := ?_) rfl (by kernel_rfl) (by kernel_rfl) (by kernel_rfl) (fun _ _ _ h => h) (Or.inl ⟨by rfl, ?_⟩) (by assumption) ?_
        rotate_left
        · intro W hSw
          obtain ⟨s0, s1, s2, s3⟩ := hSw
          go_simp
          try with_reducible rfl
        simp only [Act.put, List.setIfInBounds_toArray, List.set_cons_zero, List.set_cons_succ]
        refine wpAnyH_take (i := 10) (oi := { dst := some 35, op := Op.load 24 (Operand.tmp 7), type := 24, pos := "meaning.go:34", after := #[{ on := 9, ground := Ground.guard }], guard := some (9, false) }) (v := ?_) rfl (by kernel_rfl) (by kernel_rfl) (by kernel_rfl) (fun _ _ _ h => h) (Or.inl ⟨by rfl, ?_⟩) (by assumption) ?_
        rotate_left
        · intro W hSw
          obtain ⟨s0, s1, s2, s3⟩ := hSw
          go_simp
          try with_reducible rfl
        simp only [Act.put, List.setIfInBounds_toArray, List.set_cons_zero, List.set_cons_succ]
        refine wpAnyH_ready (rs := [11]) (by kernel_rfl) (by simp) ?_
        refine AllReadyH.cons (o := { dst := some 36, op := Op.makeSlice 36 (Operand.const (Value.int IntKind.i64 1)) (Operand.const (Value.int IntKind.i64 1)), type := 36, pos := "meaning.go:34", after := #[{ on := 9, ground := Ground.guard }], guard := some (9, false) }) rfl (fun K hK => ?_) (AllReadyH.nil)
        go_simp
        refine hK.out _ _ (H4.out _ ((((Fr.refl _ _).drew.alloc _).trans hf1).alloc _)) (fun hHeld => ?_)
        clear hK K
        refine wpAnyH_ready (rs := [12]) (by kernel_rfl) (by simp) ?_
        refine AllReadyH.cons (o := { dst := some 37, op := Op.call { callee := Callee.value (Operand.func 51), args := #[Operand.tmp 35, Operand.tmp 36], argTypes := #[24, 36] }, type := 4, pos := "meaning.go:34", after := #[{ on := 10, ground := Ground.data }, { on := 11, ground := Ground.data }, { on := 9, ground := Ground.chain }, { on := 9, ground := Ground.guard }], guard := some (9, false) }) rfl (fun K hK => ?_) (AllReadyH.nil)
        go_simp
        go_at_call 51
        refine (HFT.out _ (HW1.out.trans ((((Fr.refl _ _).drew.alloc _).trans hf1).alloc _)) _ _).mono ?_
        rintro e2 w2 ⟨rfl, hf2⟩
        go_wp2_with fail
        refine hK.out _ _ (H4.out _ (((((Fr.refl _ _).drew.alloc _).trans hf1).alloc _).trans hf2)) (fun hHeld => ?_)
        clear hK K
        refine wpAnyH_take (i := 13) (oi := { dst := some 38, op := Op.unOp UnOp.not 4 (Operand.tmp 37), type := 4, pos := "meaning.go:34", after := #[{ on := 12, ground := Ground.data }, { on := 9, ground := Ground.guard }], guard := some (9, false) }) (v := ?_) rfl (by kernel_rfl) (by kernel_rfl) (by kernel_rfl) (fun _ _ _ h => h) (Or.inl ⟨by rfl, ?_⟩) (by assumption) ?_
        rotate_left
        · intro W hSw
          obtain ⟨s0, s1, s2, s3⟩ := hSw
          go_simp
          try with_reducible rfl
        simp only [Act.put, List.setIfInBounds_toArray, List.set_cons_zero, List.set_cons_succ]
        refine wpAnyH_take (i := 14) (oi := { dst := some 39, op := Op.pick (Operand.tmp 34) (Operand.const (Value.bool true)) (Operand.tmp 38), type := 4, pos := "meaning.go:34", after := #[{ on := 9, ground := Ground.data }, { on := 13, ground := Ground.data }], guard := none }) (v := ?_) rfl (by kernel_rfl) (by kernel_rfl) (by kernel_rfl) (fun _ _ _ h => h) (Or.inl ⟨by rfl, ?_⟩) (by assumption) ?_
        rotate_left
        · intro W hSw
          obtain ⟨s0, s1, s2, s3⟩ := hSw
          go_simp
          try with_reducible rfl
        simp only [Act.put, List.setIfInBounds_toArray, List.set_cons_zero, List.set_cons_succ]
        refine wpAnyH_done (by kernel_rfl) ?_ _
        refine NoPanic.normal ?_
        go_wp2_with fail
        go_meet
        case rel => exact ⟨by rw [HGG.out], Lib.hid (((((Fr.refl _ _).drew.alloc _).trans hf1).alloc _).trans hf2)⟩


  case rest =>
    obtain ⟨rfl, HF0⟩ := hcut
    generalize wc = w0 at *
    have K0 := Lib.hid (HW1.out.trans HF0.out)
    cases G with
    | true =>
      go_wp2_with (first
        | (go_at_call 49; refine (awake_any _ (HG0.out.no K0.out)).mono ?_; rintro e9 w9 ⟨rfl, hf9⟩))
      go_ret
      exact ⟨rfl, K0.out.trans hf9⟩
    | false =>
      have hG := HG.out
      have hh : ¬ (1000 < A.length ∨ 1000 < ([] : List UInt8).length ∨ 8 < ([] : List Strm).length ∨ (∃ s ∈ ([] : List Strm), 2000 < s.b.length) ∨ (∃ c ∈ [(ca, cuts.length, cc)], 3000 < c.2.1)) := by
        have h1 : hv = false := by cases hv; rfl; simp at hG
        have := HHD.out; rw [h1] at this; unfold heavyB at this; exact of_decide_eq_false this
      have hbk : ¬ 2000 < b.length := fun h => by simp [h] at hG
      have hfit : fitB 5 5 0 A [] 1 = true := by rw [HFD.out]; cases ft; simp at hG; rfl
      simp only [not_or] at hh
      obtain ⟨hA1, _, _, _, hc3⟩ := hh
      have hcl : ¬ 3000 < cuts.length := fun h => hc3 ⟨(ca, cuts.length, cc), by simp, h⟩
      have hlA : A.length ≤ 100000000 := by omega
      obtain ⟨_, _, hck, hfk⟩ := fit_says 5 0 A [] 1 (by decide) hfit
      obtain ⟨hck1, hfk1⟩ := ma_other A hck
      clear hG hfit hft0 hc3 HHV HHD HFD HG
      have HLN := Lib.hid (fun (W : World) (hW : Fr No w W) => lines_any ba bc b W (at_no HBB.out hW) (by omega) hbc)
      cases hlg : rlong b with
      | true =>
        have hall : rdAll b true = false := by unfold rdAll; rw [hlg]; rfl
        rw [hall] at HLN
        clear hall hck hfk hck1 hfk1
        go_wp2_with (first
          | (go_at_call 54; refine (HLN.out _ K0.out).mono ?_; rintro e2 w2 ⟨a2, c2, rfl, _, hf2, _⟩; have HF2 := Lib.hid hf2; clear hf2)
          | (go_at_call 49; refine (awake_any _ (HG0.out.no (K0.out.trans HF2.out))).mono ?_; rintro e9 w9 ⟨rfl, hf9⟩))
        go_ret
        exact ⟨rfl, (K0.out.trans HF2.out).trans hf9⟩
      | false =>
        have hall : rdAll b true = true := by unfold rdAll; rw [hlg]; rfl
        rw [hall] at HLN
        have hjr := rlines_weight b true
        have hs0 : saysM 0 A [] b true = (pickM A false (rlines b true), -1, 0) := ma_says 0 A [] b hlg
        have hs1 : saysM 1 A [] b true = (pickM A true (rlines b true), -1, 0) := ma_says 1 A [] b hlg
        generalize rlines b true = ls at *
        obtain ⟨o1, ho1⟩ : ∃ x, x = pickM A false ls := ⟨_, rfl⟩
        obtain ⟨o2, ho2⟩ : ∃ x, x = pickM A true ls := ⟨_, rfl⟩
        rw [← ho1] at hs0
        rw [← ho2] at hs1
        have ht1 := fun (W : World) (hW : Fr No w W) (g : Nat) (hcell : W.cell? ⟨g, 0, none⟩ = some (.slice ba b.length bc)) => told_fine 0 aA none A [] cA 0 W (HG0.out.no hW) (at_no HA.out hW) (At.nil _ _) hlA (by simp) hck hfk ca cc cuts (at_no HC.out hW) (by omega) g 1 ba bc b hcell (at_no HBB.out hW) (by omega) hbc o1 hs0
        have ht2 := fun (W : World) (hW : Fr No w W) (g : Nat) (hcell : W.cell? ⟨g, 0, none⟩ = some (.slice ba b.length bc)) => told_fine 1 aA none A [] cA 0 W (HG0.out.no hW) (at_no HA.out hW) (At.nil _ _) hlA (by simp) hck1 hfk1 ca cc cuts (at_no HC.out hW) (by omega) g 1 ba bc b hcell (at_no HBB.out hW) (by omega) hbc o2 hs1
        simp only [List.length_nil] at ht1 ht2
        have HT1 := Lib.hid ht1; have HT2 := Lib.hid ht2
        have HO1 := Lib.hid ho1; have HO2 := Lib.hid ho2
        clear ht1 ht2 ho1 ho2 hs0 hs1 hall hck hfk hck1 hfk1
        have hlen := joinM_len ls
        go_upto_region 12 with (first
          | (go_at_call 54; refine (HLN.out _ K0.out).mono ?_; rintro e2 w2 ⟨a2, c2, rfl, hat2, hf2, hc2⟩
             have K2 := Lib.hid (K0.out.trans hf2); have HAT := Lib.hid hat2; have HC2 := Lib.hid hc2
             have P2 := H4.out _ (HF0.out.trans hf2)
             obtain ⟨p0, p1, p2, p3⟩ := P2
             have HQ2 := Lib.hid (HF0.out.trans hf2)
             clear hf2 hat2 hc2)
          | (go_at_call 55; refine (HT2.out _ ((K3.out.alloc _).alloc _) (w3.heap.size + 1) (by simp)).mono ?_; rintro e4 w4 ⟨held2, taken2, rfl, hf4⟩
             dsimp only [gotC]
             have K4 := Lib.hid (((K3.out.alloc _).alloc _).trans hf4)
             have UU1 := fun (W : World) (f : Fr No w4 W) => (box_at ((((Fr.refl No _).alloc (.cells #[.slice ba b.length bc] 22)).trans hf4).trans f)).1 0
             have u1 := UU1 _ (Fr.refl No w4)
             have HAT4 := Lib.hid (at_no HAT3.out ((((Fr.refl No w3).alloc _).alloc _).trans hf4))
             clear hf4)
          | (go_at_call 55; refine (HT1.out _ (K2.out.alloc _) _ (World.cell?_alloc_new _ #[.slice ba b.length bc] 22 (i := 0))).mono ?_; rintro e3 w3 ⟨held1, taken1, rfl, hf3⟩
             dsimp only [gotC]
             have K3 := Lib.hid ((K2.out.alloc _).trans hf3)
             have HAT3 := Lib.hid (at_no HAT.out (((Fr.refl No w2).alloc _).trans hf3))
             have HQ3 := H5.out _ ((HQ2.out.trans (((Fr.refl No w2).alloc _).trans hf3)).alloc (.cells #[sv o1, sv [], sv [], sv [], .int .i64 (-1), .int .i64 0, .int .i64 held1, .int .i64 taken1, .int .i64 0, .int .i64 0, .int .i64 0, .bool false] 42))
             obtain ⟨q0, q1, q2, q3⟩ := HQ3
             clear hf3))
        have HU := Lib.hid (fun (W : World) (f : Fr No (w4.alloc (.cells #[sv o2, sv [], sv [], sv [], .int .i64 (-1), .int .i64 0, .int .i64 held2, .int .i64 taken2, .int .i64 0, .int .i64 0, .int .i64 0, .bool false] 42)) W) => (show W.cell? ⟨w3.heap.size, 0, none⟩ = some (sv o1) ∧ W.cell? ⟨w4.heap.size, 0, none⟩ = some (sv o2) from
          ⟨(f.at.1 w3.heap.size 0 (World.block_lt_of_cell? _ _ (UU1 _ ((Fr.refl No w4).alloc _)))).trans (UU1 _ ((Fr.refl No w4).alloc _)), (box_at f).1 0⟩))
        have KE := Lib.hid (K4.out.alloc (.cells #[sv o2, sv [], sv [], sv [], .int .i64 (-1), .int .i64 0, .int .i64 held2, .int .i64 taken2, .int .i64 0, .int .i64 0, .int .i64 0, .bool false] 42))
        obtain ⟨u10, u20⟩ := HU.out _ (Fr.refl _ _)
        have HATE := Lib.hid (at_no HAT4.out ((Fr.refl No w4).alloc (.cells #[sv o2, sv [], sv [], sv [], .int .i64 (-1), .int .i64 0, .int .i64 held2, .int .i64 taken2, .int .i64 0, .int .i64 0, .int .i64 0, .bool false] 42)))
        generalize w4.alloc (.cells #[sv o2, sv [], sv [], sv [], .int .i64 (-1), .int .i64 0, .int .i64 held2, .int .i64 taken2, .int .i64 0, .int .i64 0, .int .i64 0, .bool false] 42) = wE at *
        clear u1
        go_quiet (fail)
        have HATL := Lib.hid (at_no HATE.out ((Fr.refl No wE).drewN nq))
        go_wp2
        go_loopw [15, 16, 17] (fun a b i wr => ∃ q : Nat, q ≤ ls.length ∧ i = .int .i64 q ∧ a = sv (pickM A false (ls.drop q)) ∧ b = sv (pickM A true (ls.drop q)) ∧ Hid (Fr No (wE.drewN nq) wr)) (fun _ _ i _ => ls.length - (intOf i).toNat)
        case atStart => exact ⟨0, Nat.zero_le _, rfl, by rw [HO1.out]; rfl, by rw [HO2.out]; rfl, Lib.hid (Fr.refl _ _)⟩
        case round =>
          obtain ⟨q, hq, rfl, ha, hb, HF⟩ := hrel
          by_cases hlt : q < ls.length
          · have hqi : (q : Int) < ls.length := by omega
            obtain ⟨ga, oa, rfl, hr1⟩ := HATL.out (by simp; omega)
            have HCX := Lib.hid (fun (W : World) (f : Fr No wr W) => (hr1.fr (HF.out.trans f) (fun _ _ x => x)).get q (sv ls[q]) (by simp [hlt]))
            have hxl := joinM_in ls q hlt
            rw [List.drop_eq_getElem_cons hlt, pick_cons] at ha hb
            generalize ls[q] = x at *
            obtain ⟨ra, hra⟩ : ∃ y, y = pickM A false (ls.drop (q + 1)) := ⟨_, rfl⟩
            obtain ⟨rb, hrb⟩ : ∃ y, y = pickM A true (ls.drop (q + 1)) := ⟨_, rfl⟩
            rw [← hra] at ha
            rw [← hrb] at hb
            have HRA := Lib.hid hra.symm; have HRB := Lib.hid hrb.symm
            clear hra hrb hr1
            have hcx0 := HCX.out _ (Fr.refl _ _)
            have z1 : ¬ 9223372036854775807 < x.length + 1 := by omega
            have cutA : ∀ (r : List UInt8) (W : World), (Instr.slice 9 (sv (x ++ [10] ++ r)) none (some (.int .i64 ((x.length : Int) + 1))) none).run Try.prog W = .ok (.string ((⟨x.toArray⟩ : ByteArray) ++ ⟨#[10]⟩)) W := fun r W => by
              refine (run_slice_string_h (P := Try.prog) W 9 ⟨(x ++ [10] ++ r).toArray⟩ Try.underlying9 .i64 ((x.length : Int) + 1) (by omega) (by rw [size_mk]; simp; omega)).trans ?_
              congr 2
              apply ByteArray.ext
              apply Array.ext'
              simp [ByteArray.data_append, show ((x.length : Int) + 1).toNat = x.length + 1 from by omega]
              rw [show x ++ 10 :: r = (x ++ [10]) ++ r from by simp, List.take_append_of_le_length (by simp), List.take_of_length_le (by simp)]
            have cutB : ∀ (r : List UInt8) (W : World), (Instr.slice 9 (sv (x ++ [10] ++ r)) (some (.int .i64 ((x.length : Int) + 1))) none none).run Try.prog W = .ok (sv r) W := fun r W => by
              refine (run_slice_string_l (P := Try.prog) W 9 ⟨(x ++ [10] ++ r).toArray⟩ Try.underlying9 .i64 ((x.length : Int) + 1) (by omega) (by rw [size_mk]; simp; omega)).trans ?_
              congr 2
              apply ByteArray.ext
              apply Array.ext'
              simp [show ((x.length : Int) + 1).toNat = x.length + 1 from by omega]
              exact List.take_of_length_le (by rw [size_mk]; simp; omega)
            cases hcb : Lib.contains x A with
            | true =>
              rw [hcb, if_neg (by decide)] at ha
              rw [hcb, if_pos rfl, List.nil_append] at hb
              subst ha; subst hb
              have c1 := cutA ra
              have c2' := cutB ra
              have hge : (x.length : Int) + 1 ≤ ((x ++ [10] ++ ra).length : Nat) := by simp; omega
              generalize x ++ [10] ++ ra = ja at *
              clear cutA cutB
              go_wp2
              go_loopw [19, 20] (fun h k wk => ∃ j : Nat, j ≤ x.length + 1 ∧ k = .int .i64 j ∧ h = .bool (metM x A j) ∧ Hid (Fr No wr wk)) (fun _ k _ => x.length + 1 - (intOf k).toNat)
              case atStart => exact ⟨0, Nat.zero_le _, rfl, rfl, Lib.hid (Fr.refl _ _)⟩
              case round =>
                obtain ⟨j, hj, rfl, rfl, HFK⟩ := hrel
                have hcx := HCX.out _ HFK.out
                by_cases hle : j + A.length ≤ x.length
                · have hlei : (j : Int) + A.length ≤ x.length := by omega
                  have hmn := met_next x A j
                  have hcv := fun (nn : Nat) => conv_at (P := Try.prog) (cap := cA) (at_no HA.out (((KE.out.drewN nq).trans HF.out).trans (HFK.out.drewN nn))) (src := 22) (dst := 9) Try.underlying22 Try.underlying5 Try.underlying9
                  obtain ⟨u, hu⟩ : ∃ u, u = (x.drop j).take A.length := ⟨_, rfl⟩
                  have hsl : ∀ W : World, (Instr.slice 9 (sv x) (some (.int .i64 j)) (some (.int .i64 ((j : Int) + A.length))) none).run Try.prog W = .ok (sv u) W := fun W => by
                    have h := run_slice_string (P := Try.prog) W 9 ⟨x.toArray⟩ .i64 .i64 (j : Int) ((j : Int) + A.length) Try.underlying9 (by omega) (by omega) (by rw [size_mk]; omega)
                    refine h.trans ?_
                    rw [ByteArray.extract_mk, hu]
                    congr 5
                    · omega
                  rw [← hu] at hmn
                  clear hu
                  generalize metM x A j = mj at *
                  cases mj with
                  | true =>
                    have HMN := Lib.hid hmn; clear hmn
                    go_wp2_with fail
                    go_quiet (fail)
                    go_wp2
                    go_roundw
                    case rel => exact ⟨j + 1, by omega, by go_num, by rw [HMN.out]; rfl, Lib.hid (HFK.out.drewN nq)⟩
                    case measure => simp [intOf]; omega
                  | false =>
                    by_cases hua : u = A
                    · subst hua
                      rw [decide_eq_true rfl] at hmn
                      have HMN := Lib.hid hmn; clear hmn
                      go_wp2_with fail
                      go_quiet (fail)
                      go_wp2
                      go_roundw
                      case rel => exact ⟨j + 1, by omega, by go_num, by rw [HMN.out]; rfl, Lib.hid (HFK.out.drewN nq)⟩
                      case measure => simp [intOf]; omega
                    · rw [decide_eq_false hua] at hmn
                      have hbe : (u == A) = false := beq_eq_false_iff_ne.2 hua
                      have HMN := Lib.hid hmn; clear hmn hua
                      go_wp2_with fail
                      go_quiet (fail)
                      go_wp2
                      go_roundw
                      case rel => exact ⟨j + 1, by omega, by go_num, by rw [HMN.out]; rfl, Lib.hid (HFK.out.drewN nq)⟩
                      case measure => simp [intOf]; omega
                · have hlei : decide ((j : Int) + A.length ≤ x.length) = false := decide_eq_false (by omega)
                  have hall := met_all x A j hj (by omega)
                  rw [hcb] at hall
                  generalize metM x A j = mj at *
                  subst hall
                  go_wp2
                  go_roundw
                  case rel => exact ⟨q + 1, by omega, by go_num, by rw [HRA.out], by rw [HRB.out], Lib.hid (HF.out.trans HFK.out)⟩
                  case measure => simp [intOf]; omega

            | false =>
              rw [hcb, if_pos rfl, List.nil_append] at ha
              rw [hcb, if_neg (by decide)] at hb
              subst ha; subst hb
              have c1 := cutA rb
              have c2' := cutB rb
              have hge : (x.length : Int) + 1 ≤ ((x ++ [10] ++ rb).length : Nat) := by simp; omega
              generalize x ++ [10] ++ rb = jb at *
              clear cutA cutB
              go_wp2
              go_loopw [19, 20] (fun h k wk => ∃ j : Nat, j ≤ x.length + 1 ∧ k = .int .i64 j ∧ h = .bool (metM x A j) ∧ Hid (Fr No wr wk)) (fun _ k _ => x.length + 1 - (intOf k).toNat)
              case atStart => exact ⟨0, Nat.zero_le _, rfl, rfl, Lib.hid (Fr.refl _ _)⟩
              case round =>
                obtain ⟨j, hj, rfl, rfl, HFK⟩ := hrel
                have hcx := HCX.out _ HFK.out
                by_cases hle : j + A.length ≤ x.length
                · have hlei : (j : Int) + A.length ≤ x.length := by omega
                  have hmn := met_next x A j
                  have hcv := fun (nn : Nat) => conv_at (P := Try.prog) (cap := cA) (at_no HA.out (((KE.out.drewN nq).trans HF.out).trans (HFK.out.drewN nn))) (src := 22) (dst := 9) Try.underlying22 Try.underlying5 Try.underlying9
                  obtain ⟨u, hu⟩ : ∃ u, u = (x.drop j).take A.length := ⟨_, rfl⟩
                  have hsl : ∀ W : World, (Instr.slice 9 (sv x) (some (.int .i64 j)) (some (.int .i64 ((j : Int) + A.length))) none).run Try.prog W = .ok (sv u) W := fun W => by
                    have h := run_slice_string (P := Try.prog) W 9 ⟨x.toArray⟩ .i64 .i64 (j : Int) ((j : Int) + A.length) Try.underlying9 (by omega) (by omega) (by rw [size_mk]; omega)
                    refine h.trans ?_
                    rw [ByteArray.extract_mk, hu]
                    congr 5
                    · omega
                  rw [← hu] at hmn
                  clear hu
                  generalize metM x A j = mj at *
                  cases mj with
                  | true =>
                    have HMN := Lib.hid hmn; clear hmn
                    go_wp2_with fail
                    go_quiet (fail)
                    go_wp2
                    go_roundw
                    case rel => exact ⟨j + 1, by omega, by go_num, by rw [HMN.out]; rfl, Lib.hid (HFK.out.drewN nq)⟩
                    case measure => simp [intOf]; omega
                  | false =>
                    by_cases hua : u = A
                    · subst hua
                      rw [decide_eq_true rfl] at hmn
                      have HMN := Lib.hid hmn; clear hmn
                      go_wp2_with fail
                      go_quiet (fail)
                      go_wp2
                      go_roundw
                      case rel => exact ⟨j + 1, by omega, by go_num, by rw [HMN.out]; rfl, Lib.hid (HFK.out.drewN nq)⟩
                      case measure => simp [intOf]; omega
                    · rw [decide_eq_false hua] at hmn
                      have hbe : (u == A) = false := beq_eq_false_iff_ne.2 hua
                      have HMN := Lib.hid hmn; clear hmn hua
                      go_wp2_with fail
                      go_quiet (fail)
                      go_wp2
                      go_roundw
                      case rel => exact ⟨j + 1, by omega, by go_num, by rw [HMN.out]; rfl, Lib.hid (HFK.out.drewN nq)⟩
                      case measure => simp [intOf]; omega
                · have hlei : decide ((j : Int) + A.length ≤ x.length) = false := decide_eq_false (by omega)
                  have hall := met_all x A j hj (by omega)
                  rw [hcb] at hall
                  generalize metM x A j = mj at *
                  subst hall
                  go_wp2
                  go_roundw
                  case rel => exact ⟨q + 1, by omega, by go_num, by rw [HRA.out], by rw [HRB.out], Lib.hid (HF.out.trans HFK.out)⟩
                  case measure => simp [intOf]; omega

          · obtain rfl : q = ls.length := by omega
            rw [List.drop_length] at ha hb
            have e0 : ∀ not, pickM A not [] = [] := fun _ => rfl
            rw [e0] at ha hb
            subst ha; subst hb
            go_wp2_with (first
              | (go_at_call 49; refine (awake_any _ (HG0.out.no ((KE.out.drewN nq).trans HF.out))).mono ?_; rintro e9 w9 ⟨rfl, hf9⟩))
            go_ret
            exact ⟨rfl, ((KE.out.drewN nq).trans HF.out).trans hf9⟩

theorem walk_matchParts (w : World) (hG : GM w) {v0 v1 v2 : Value} (A : List UInt8) (hA : IsB w v0 A) (b : List UInt8) (hb : IsB w v1 b) (cuts : List Int) (hc : IsInts w v2 cuts) : Calls Try.prog 23 #[v0, v1, v2] w (TruePost w) := by
  obtain ⟨aA, cA, rfl, _, _, hA, _⟩ := hA
  obtain ⟨ba, bc, rfl, hbc, _, hb, _⟩ := hb
  obtain ⟨ca, cc, rfl, hca⟩ := hc
  exact core_matchParts w hG aA A cA ba bc b ca cc cuts hA hb hbc hca
end Go.Proofs.Ytcplbhjpefmliaa
