/- The rule of parameters. -/
import Derived.Test.YtljldkknopmfhaaParA
import Derived.Test.YtljldkknopmfhaaParC
import Derived.Deep.DeepCutAuto
import Derived.Laws.ResultCell
namespace Go.Proofs.Ytljldkknopmfhaa
open Go.RowKit

theorem bytes_any (l m a i o h e k n : Int) (aA aB : Option Addr) (A B : List UInt8) (cA cB : Nat) (w : World) (ha : a = 0 ∨ a = 1 ∨ a = 2 ∨ a = 3) (hA : At w aA (A.map bv)) (hl : A.length ≤ 100000000) (hl2 : B.length ≤ 100000000) :
    Calls Try.prog 85 #[.agg #[.int .i64 l, .int .i64 m, .int .i64 a, .int .i64 i, .int .i64 o, .int .i64 h, .int .i64 e], .agg #[.int .i64 k, .int .i64 n, .slice aA A.length cA, .slice aB B.length cB]] w (BPost w (bytesM a A B)) := by
  rcases ha with rfl | rfl | rfl | rfl
  · exact bytes_zero l m i o h e k n aA aB A B cA cB w
  · exact bytes_word l m i o h e k n aA aB A B cA cB w hA hl
  · exact bytes_unlike l m i o h e k n aA aB A B cA cB w hA hl hl2
  · exact bytes_part l m i o h e k n aA aB A B cA cB w hA

def OfPost (w : World) (r : Rl × Int) (e : Ending) (w' : World) : Prop := e = .returned (.tuple #[.agg r.1.cells.toArray, .int .i64 r.2]) ∧ Fr No w w'

theorem rule_load (W : World) (g : Nat) (cs : Array Value) (hg : W.heap[g]? = some (.cells cs 90 (0, 0))) (hs : cs.size = 7) : (loadVar 90 ⟨g, 0, none⟩).run Try.prog W = .ok (.agg cs) W :=
  run_loadVar_row W g 90 90 cs (0, 0) _ hg Try.underlying90 rfl (by rw [hs]; kernel_rfl)
/-- The world behind the rule's region: the rule in a block of its own. -/
def RuleAt (W0 : World) (cs : Array Value) (s : Value) (wx : World) : Prop := ∃ g, s = .pointer (some ⟨g, 0, none⟩) ∧ W0.heap.size ≤ g ∧ wx.heap[g]? = some (.cells cs 90 (0, 0)) ∧ Fr No W0 wx
def ofN (n l m a ins outs h e : Int) (A B : List UInt8) : Rl × Int :=
  if n < l ∨ m < n ∨ bytesM a A B = false then (rl0, 11) else if 0 < e ∧ (2048 - h) / e < n then (rl0, 12) else (⟨l, m, a, ins, outs, h, e⟩, 0)
set_option maxHeartbeats 2000000 in
set_option maxRecDepth 100000 in
theorem of_core (k n l m a ins outs h e : Int) (aA aB : Option Addr) (A B : List UInt8) (cA cB : Nat) (w : World) (hk1 : 1 ≤ k) (hk2 : k ≤ 16)
    (hix : ∀ W, (Instr.index 115 (.agg ruleC) (.int .i64 k)).run Try.prog W = .ok (.agg #[.int .i64 l, .int .i64 m, .int .i64 a, .int .i64 ins, .int .i64 outs, .int .i64 h, .int .i64 e]) W)
    (ha : a = 0 ∨ a = 1 ∨ a = 2 ∨ a = 3) (hh0 : 0 ≤ h) (hh : h ≤ 2048) (he : 0 ≤ e) (hA : At w aA (A.map bv)) (hl : A.length ≤ 100000000) (hl2 : B.length ≤ 100000000) :
    Calls Try.prog 59 #[.agg #[.int .i64 k, .int .i64 n, .slice aA A.length cA, .slice aB B.length cB]] w (OfPost w (ofN n l m a ins outs h e A B)) := by
  have HA := Lib.hid hA
  have Ha := Lib.hid ha
  clear hA ha
  have hk1' : ¬ k < 1 := by omega
  have hk2' : ¬ 16 < k := by omega
  have k1 : ((w.alloc (.cells #[.int .i64 k, .int .i64 n, .slice aA A.length cA, .slice aB B.length cB] 41)).alloc (.cells #[.int .i64 0, .int .i64 0, .int .i64 0, .int .i64 0, .int .i64 0, .int .i64 0, .int .i64 0] 90)).drew.cell? ⟨w.heap.size, 0, none⟩ = some (.int .i64 k) := by simp [go_sem]
  have hsz : (Try.prog.info? 90).map (·.size) = some 7 := by kernel_rfl
  have HSZ := Lib.hid hsz
  have hc1 : (#[.int .i64 l, .int .i64 m, .int .i64 a, .int .i64 ins, .int .i64 outs, .int .i64 h, .int .i64 e] : Array Value).all (·.oneCell') = true := by simp [Value.oneCell']
  have HC1 := Lib.hid hc1
  clear hc1
  clear hsz
  have hc0 : (#[.int .i64 0, .int .i64 0, .int .i64 0, .int .i64 0, .int .i64 0, .int .i64 0, .int .i64 0] : Array Value).all (·.oneCell') = true := by simp [Value.oneCell']
  have HC0 := Lib.hid hc0
  clear hc0
  go_enter Try.func59, Try.ntmps59
  go_upto_region 3 with fail
  go_cut [4] (fun s wx => RuleAt ((w.alloc (.cells #[.int .i64 k, .int .i64 n, .slice aA A.length cA, .slice aB B.length cB] 41)).alloc (.cells #[.int .i64 0, .int .i64 0, .int .i64 0, .int .i64 0, .int .i64 0, .int .i64 0, .int .i64 0] 90)) #[.int .i64 l, .int .i64 m, .int .i64 a, .int .i64 ins, .int .i64 outs, .int .i64 h, .int .i64 e] s wx)
  case first =>
    refine wp_region_noPanic ?_
    refine wp_region_held_drew (S := fun W => W.cell? ⟨w.heap.size, 0, none⟩ = some (.int .i64 k)) (by kernel_rfl) k1 (fun hHeld => ?_)
    refine wpAnyH_take (i := 1) (oi := { dst := some 15, op := Op.fieldAddr 41 (Operand.tmp 1) 0, type := 0, pos := "params.go:71", after := #[], guard := none }) (v := ?_) rfl (by kernel_rfl) (by kernel_rfl) (by kernel_rfl) (fun _ _ _ h => h) (Or.inl ⟨by rfl, ?_⟩) (by assumption) ?_
    rotate_left
    · intro W hSw
      go_simp
      try with_reducible rfl
    simp only [Act.put, List.setIfInBounds_toArray, List.set_cons_zero, List.set_cons_succ]
    refine wpAnyH_take (i := 2) (oi := { dst := some 16, op := Op.load 3 (Operand.tmp 15), type := 3, pos := "params.go:71", after := #[{ on := 1, ground := Ground.data }], guard := none }) (v := ?_) rfl (by kernel_rfl) (by kernel_rfl) (by kernel_rfl) (fun _ _ _ h => h) (Or.inl ⟨by rfl, ?_⟩) (by assumption) ?_
    rotate_left
    · intro W hSw
      go_simp
      try with_reducible rfl
    simp only [Act.put, List.setIfInBounds_toArray, List.set_cons_zero, List.set_cons_succ]
    refine wpAnyH_ready (rs := [0, 4]) (by kernel_rfl) (by simp) ?_
    refine AllReadyH.cons (o := { dst := some 14, op := Op.call { callee := Callee.value (Operand.func 84), args := #[], argTypes := #[] }, type := 115, pos := "params.go:71", after := #[], guard := none }) rfl (fun K hK => ?_) (AllReadyH.cons (o := { dst := some 4, op := Op.alloc 90, type := 0, pos := "params.go:71", after := #[], guard := none }) rfl (fun K hK => ?_) AllReadyH.nil)
    · have hHeld := k1
      go_simp
      go_at_call 84
      refine (rules_law _).mono ?_
      rintro e w1 ⟨rfl, hfr1⟩
      have k2 : w1.cell? ⟨w.heap.size, 0, none⟩ = some (.int .i64 k) := (hfr1.at.1 _ _ (by simp; omega)).trans (by assumption)
      go_wp2_with fail
      refine hK.out _ _ k2 (fun hHeld => ?_)
      clear hK K
      refine wpAnyH_take (i := 3) (oi := { dst := some 17, op := Op.index 115 (Operand.tmp 14) (Operand.tmp 16), type := 90, pos := "params.go:71", after := #[{ on := 0, ground := Ground.data }, { on := 2, ground := Ground.data }], guard := none }) (v := ?_) rfl (by kernel_rfl) (by kernel_rfl) (by kernel_rfl) (fun _ _ _ h => h) (Or.inl ⟨by rfl, ?_⟩) (by assumption) ?_
      rotate_left
      · intro W hSw
        go_simp
        try with_reducible rfl
      simp only [Act.put, List.setIfInBounds_toArray, List.set_cons_zero, List.set_cons_succ]
      refine wpAnyH_ready (rs := [4]) (by kernel_rfl) (by simp) ?_
      refine AllReadyH.cons (o := { dst := some 4, op := Op.alloc 90, type := 0, pos := "params.go:71", after := #[], guard := none }) rfl (fun K hK => ?_) AllReadyH.nil
      go_simp
      refine hK.out _ _ (cell_alloc k2 _) (fun hHeld => ?_)
      clear hK K
      refine wpAnyH_ready (rs := [5]) (by kernel_rfl) (by simp) ?_
      refine AllReadyH.cons (o := { dst := none, op := Op.store 90 (Operand.tmp 4) (Operand.tmp 17), type := 0, pos := "params.go:71", after := #[{ on := 4, ground := Ground.data }, { on := 3, ground := Ground.data }, { on := 0, ground := Ground.chain }, { on := 0, ground := Ground.phase }, { on := 1, ground := Ground.phase }, { on := 2, ground := Ground.phase }, { on := 3, ground := Ground.phase }, { on := 4, ground := Ground.phase }], guard := none }) rfl (fun K hK => ?_) AllReadyH.nil
      rw [if_pos (by rfl)]
      refine wp_store_row 90 (.tmp 4) (.tmp 17) rfl w1.heap.size #[.int .i64 l, .int .i64 m, .int .i64 a, .int .i64 ins, .int .i64 outs, .int .i64 h, .int .i64 e] rfl rfl 90 #[.int .i64 0, .int .i64 0, .int .i64 0, .int .i64 0, .int .i64 0, .int .i64 0, .int .i64 0] (heap_alloc_last w1 _) HSZ.out rfl HC1.out ?_
      refine hK.out _ _ ((by rw [World.setRow_alloc_new]; exact cell_alloc k2 _)) (fun hHeld => ?_)
      clear hK K
      refine wpAnyH_done (by kernel_rfl) ?_ _
      refine NoPanic.normal ?_
      go_wp2_with fail
      go_meet
      have hs1 := hfr1.size
      rw [World.setRow_alloc_new]
      exact ⟨w1.heap.size, rfl, hs1, heap_alloc_last w1 _, ((Fr.refl _ _).drew.trans hfr1).alloc _⟩
    · go_simp
      refine hK.out _ _ (cell_alloc k1 _) (fun hHeld => ?_)
      clear hK K
      refine wpAnyH_ready (rs := [0]) (by kernel_rfl) (by simp) ?_
      refine AllReadyH.cons (o := { dst := some 14, op := Op.call { callee := Callee.value (Operand.func 84), args := #[], argTypes := #[] }, type := 115, pos := "params.go:71", after := #[], guard := none }) rfl (fun K hK => ?_) AllReadyH.nil
      go_simp
      go_at_call 84
      refine (rules_law _).mono ?_
      rintro e w1 ⟨rfl, hfr1⟩
      have k2 : w1.cell? ⟨w.heap.size, 0, none⟩ = some (.int .i64 k) := (hfr1.at.1 _ _ (by simp; omega)).trans (by assumption)
      go_wp2_with fail
      refine hK.out _ _ k2 (fun hHeld => ?_)
      clear hK K
      refine wpAnyH_take (i := 3) (oi := { dst := some 17, op := Op.index 115 (Operand.tmp 14) (Operand.tmp 16), type := 90, pos := "params.go:71", after := #[{ on := 0, ground := Ground.data }, { on := 2, ground := Ground.data }], guard := none }) (v := ?_) rfl (by kernel_rfl) (by kernel_rfl) (by kernel_rfl) (fun _ _ _ h => h) (Or.inl ⟨by rfl, ?_⟩) (by assumption) ?_
      rotate_left
      · intro W hSw
        go_simp
        try with_reducible rfl
      simp only [Act.put, List.setIfInBounds_toArray, List.set_cons_zero, List.set_cons_succ]
      have hbk : w1.heap[w.heap.size + 2]? = some (.cells #[.int .i64 0, .int .i64 0, .int .i64 0, .int .i64 0, .int .i64 0, .int .i64 0, .int .i64 0] 90 (0, 0)) := by
        rw [hfr1.block (w.heap.size + 2) (by simp) (fun _ x => x)]
        rw [show w.heap.size + 2 = ((w.alloc (.cells #[.int .i64 k, .int .i64 n, .slice aA A.length cA, .slice aB B.length cB] 41)).alloc (.cells #[.int .i64 0, .int .i64 0, .int .i64 0, .int .i64 0, .int .i64 0, .int .i64 0, .int .i64 0] 90)).drew.heap.size from by simp]
        exact heap_alloc_last _ _
      refine wpAnyH_ready (rs := [5]) (by kernel_rfl) (by simp) ?_
      refine AllReadyH.cons (o := { dst := none, op := Op.store 90 (Operand.tmp 4) (Operand.tmp 17), type := 0, pos := "params.go:71", after := #[{ on := 4, ground := Ground.data }, { on := 3, ground := Ground.data }, { on := 0, ground := Ground.chain }, { on := 0, ground := Ground.phase }, { on := 1, ground := Ground.phase }, { on := 2, ground := Ground.phase }, { on := 3, ground := Ground.phase }, { on := 4, ground := Ground.phase }], guard := none }) rfl (fun K hK => ?_) AllReadyH.nil
      rw [if_pos (by rfl)]
      refine wp_store_row 90 (.tmp 4) (.tmp 17) rfl (w.heap.size + 2) #[.int .i64 l, .int .i64 m, .int .i64 a, .int .i64 ins, .int .i64 outs, .int .i64 h, .int .i64 e] rfl rfl 90 #[.int .i64 0, .int .i64 0, .int .i64 0, .int .i64 0, .int .i64 0, .int .i64 0, .int .i64 0] (hbk) HSZ.out rfl HC1.out ?_
      refine hK.out _ _ ((by rw [World.cell?_of_block (w := w1) (a := ⟨w.heap.size, 0, none⟩) (setRow_other w1 _ _ _ (by simp))]; exact k2)) (fun hHeld => ?_)
      clear hK K
      refine wpAnyH_done (by kernel_rfl) ?_ _
      refine NoPanic.normal ?_
      go_wp2_with fail
      go_meet
      refine ⟨w.heap.size + 2, rfl, by simp, setRow_heap w1 _ _ _ _ _ hbk, Fr.setRow (((Fr.refl _ _).drew.alloc _).trans hfr1) _ _ (fun o ho => by simp at ho <;> omega)⟩
  case rest =>
    obtain ⟨g, rfl, hg, hb, hf⟩ := hcut
    have hgl : g < wc.heap.size := (Array.getElem?_eq_some_iff.1 hb).1
    simp at hg
    have c0 : wc.cell? ⟨g, 0, none⟩ = some (.int .i64 l) := by rw [cell_block hb]; rfl
    have c1 : wc.cell? ⟨g, 1, none⟩ = some (.int .i64 m) := by rw [cell_block hb]; rfl
    have c2 : wc.cell? ⟨g, 2, none⟩ = some (.int .i64 a) := by rw [cell_block hb]; rfl
    have c3 : wc.cell? ⟨g, 3, none⟩ = some (.int .i64 ins) := by rw [cell_block hb]; rfl
    have c4 : wc.cell? ⟨g, 4, none⟩ = some (.int .i64 outs) := by rw [cell_block hb]; rfl
    have c5 : wc.cell? ⟨g, 5, none⟩ = some (.int .i64 h) := by rw [cell_block hb]; rfl
    have c6 : wc.cell? ⟨g, 6, none⟩ = some (.int .i64 e) := by rw [cell_block hb]; rfl
    have p0 : wc.cell? ⟨w.heap.size, 0, none⟩ = some (.int .i64 k) := by rw [hf.at.1 _ _ (by simp <;> omega)]; simp [go_sem]
    have p1 : wc.cell? ⟨w.heap.size, 1, none⟩ = some (.int .i64 n) := by rw [hf.at.1 _ _ (by simp <;> omega)]; simp [go_sem]
    have p2 : wc.cell? ⟨w.heap.size, 2, none⟩ = some (.slice aA A.length cA) := by rw [hf.at.1 _ _ (by simp <;> omega)]; simp [go_sem]
    have p3 : wc.cell? ⟨w.heap.size, 3, none⟩ = some (.slice aB B.length cB) := by rw [hf.at.1 _ _ (by simp <;> omega)]; simp [go_sem]
    have hres : wc.heap[w.heap.size + 1]? = some (.cells #[.int .i64 0, .int .i64 0, .int .i64 0, .int .i64 0, .int .i64 0, .int .i64 0, .int .i64 0] 90 (0, 0)) := by
      rw [hf.block (w.heap.size + 1) (by simp) (fun _ x => x)]
      rw [show w.heap.size + 1 = (w.alloc (.cells #[.int .i64 k, .int .i64 n, .slice aA A.length cA, .slice aB B.length cB] 41)).heap.size from by simp]
      exact heap_alloc_last _ _
    have HF := Lib.hid (((Fr.refl No w).alloc _).alloc _ |>.trans hf)
    have HRES := Lib.hid hres
    have HBK := Lib.hid hb
    clear hb hf hres k1 hix
    by_cases h1 : n < l
    · have e0 : ofN n l m a ins outs h e A B = (rl0, 11) := by unfold ofN; rw [if_pos (.inl h1)]
      have E0 := Lib.hid e0; clear e0
      go_wp2_with (first
        | (refine wpList_store_row rfl 90 (.tmp 2) (.tmp 37) rfl (w.heap.size + 1) #[.int .i64 0, .int .i64 0, .int .i64 0, .int .i64 0, .int .i64 0, .int .i64 0, .int .i64 0] rfl rfl 90 #[.int .i64 0, .int .i64 0, .int .i64 0, .int .i64 0, .int .i64 0, .int .i64 0, .int .i64 0] (HRES.out) HSZ.out rfl HC0.out ?_))
      exact bodyPost_ret (v := .tuple #[.agg #[.int .i64 0, .int .i64 0, .int .i64 0, .int .i64 0, .int .i64 0, .int .i64 0, .int .i64 0], .int .i64 11]) ((results_cell_tmp (p := 2) (u := 3) (ty := 90) (by kernel_rfl) _ _ _).trans (by simp [asAddr, rule_load _ (w.heap.size + 1) #[.int .i64 0, .int .i64 0, .int .i64 0, .int .i64 0, .int .i64 0, .int .i64 0, .int .i64 0] (setRow_heap wc (w.heap.size + 1) _ _ 90 _ HRES.out) rfl])) rfl ⟨by rw [E0.out]; rfl, HF.out.setRow _ _ (fun o ho => by omega)⟩
    by_cases h2 : m < n
    · have e0 : ofN n l m a ins outs h e A B = (rl0, 11) := by unfold ofN; rw [if_pos (.inr (.inl h2))]
      have E0 := Lib.hid e0; clear e0
      go_wp2_with (first
        | (refine wpList_store_row rfl 90 (.tmp 2) (.tmp 37) rfl (w.heap.size + 1) #[.int .i64 0, .int .i64 0, .int .i64 0, .int .i64 0, .int .i64 0, .int .i64 0, .int .i64 0] rfl rfl 90 #[.int .i64 0, .int .i64 0, .int .i64 0, .int .i64 0, .int .i64 0, .int .i64 0, .int .i64 0] (HRES.out) HSZ.out rfl HC0.out ?_))
      exact bodyPost_ret (v := .tuple #[.agg #[.int .i64 0, .int .i64 0, .int .i64 0, .int .i64 0, .int .i64 0, .int .i64 0, .int .i64 0], .int .i64 11]) ((results_cell_tmp (p := 2) (u := 3) (ty := 90) (by kernel_rfl) _ _ _).trans (by simp [asAddr, rule_load _ (w.heap.size + 1) #[.int .i64 0, .int .i64 0, .int .i64 0, .int .i64 0, .int .i64 0, .int .i64 0, .int .i64 0] (setRow_heap wc (w.heap.size + 1) _ _ 90 _ HRES.out) rfl])) rfl ⟨by rw [E0.out]; rfl, HF.out.setRow _ _ (fun o ho => by omega)⟩
    have hf1 : decide (n < l) = false := decide_eq_false h1
    have hf2 : decide (m < n) = false := decide_eq_false h2
    cases hb : bytesM a A B with
    | false =>
      have HB := Lib.hid hb
      have e0 : ofN n l m a ins outs h e A B = (rl0, 11) := by unfold ofN; rw [if_pos (.inr (.inr hb))]
      clear hb
      have E0 := Lib.hid e0; clear e0
      go_wp2_with (first
        | (refine wpList_store_row rfl 90 (.tmp 2) (.tmp 37) rfl (w.heap.size + 1) #[.int .i64 0, .int .i64 0, .int .i64 0, .int .i64 0, .int .i64 0, .int .i64 0, .int .i64 0] rfl rfl 90 #[.int .i64 0, .int .i64 0, .int .i64 0, .int .i64 0, .int .i64 0, .int .i64 0, .int .i64 0] (HR5.out) HSZ.out rfl HC0.out ?_)
        | (go_at_call 85; refine (bytes_any l m a ins outs h e k n aA aB A B cA cB _ Ha.out (HA.out.fr HF.out (fun _ _ _ _ _ _ x => x)) hl hl2).mono ?_; rw [HB.out]; rintro e5 w5 ⟨rfl, hf5⟩; have hc5 : ∀ o, w5.cell? ⟨g, o, none⟩ = wc.cell? ⟨g, o, none⟩ := (fun o => hf5.at.1 g o hgl); have hp5 : ∀ o, w5.cell? ⟨w.heap.size, o, none⟩ = wc.cell? ⟨w.heap.size, o, none⟩ := (fun o => hf5.at.1 _ o (by omega)); have HR5 := Lib.hid ((hf5.block (w.heap.size + 1) (by omega) (fun _ x => x)).trans HRES.out); have HF5 := Lib.hid (HF.out.trans hf5); clear hf5))
      exact bodyPost_ret (v := .tuple #[.agg #[.int .i64 0, .int .i64 0, .int .i64 0, .int .i64 0, .int .i64 0, .int .i64 0, .int .i64 0], .int .i64 11]) ((results_cell_tmp (p := 2) (u := 3) (ty := 90) (by kernel_rfl) _ _ _).trans (by simp [asAddr, rule_load _ (w.heap.size + 1) #[.int .i64 0, .int .i64 0, .int .i64 0, .int .i64 0, .int .i64 0, .int .i64 0, .int .i64 0] (setRow_heap w5 (w.heap.size + 1) _ _ 90 _ HR5.out) rfl])) rfl ⟨by rw [E0.out]; rfl, HF5.out.setRow _ _ (fun o ho => by omega)⟩
    | true =>
      have HB := Lib.hid hb
      have hn0 : ¬ (n < l ∨ m < n ∨ bytesM a A B = false) := by rw [hb]; rintro (x | x | x); exact h1 x; exact h2 x; cases x
      have e1 : ofN n l m a ins outs h e A B = if 0 < e ∧ (2048 - h) / e < n then (rl0, 12) else (⟨l, m, a, ins, outs, h, e⟩, 0) := by unfold ofN; rw [if_neg hn0]
      clear hb hn0
      by_cases h3 : 0 < e
      · have hd1 : 1 ≤ e := by omega
        have hd0 : 0 ≤ (2048 - h) / e := Int.ediv_nonneg (by omega) (by omega)
        have hdq : (2048 - h) / e ≤ 2048 := by
          have := Int.ediv_le_self (a := 2048 - h) e (by omega)
          omega
        by_cases h4 : (2048 - h) / e < n
        · rw [if_pos ⟨h3, h4⟩] at e1
          have E0 := Lib.hid e1; clear e1
          go_wp2_with (first
            | (go_at_call 85; refine (bytes_any l m a ins outs h e k n aA aB A B cA cB _ Ha.out (HA.out.fr HF.out (fun _ _ _ _ _ _ x => x)) hl hl2).mono ?_; rw [HB.out]; rintro e5 w5 ⟨rfl, hf5⟩; have hc5 : ∀ o, w5.cell? ⟨g, o, none⟩ = wc.cell? ⟨g, o, none⟩ := (fun o => hf5.at.1 g o hgl); have hp5 : ∀ o, w5.cell? ⟨w.heap.size, o, none⟩ = wc.cell? ⟨w.heap.size, o, none⟩ := (fun o => hf5.at.1 _ o (by omega)); have HR5 := Lib.hid ((hf5.block (w.heap.size + 1) (by omega) (fun _ x => x)).trans HRES.out); have HF5 := Lib.hid (HF.out.trans hf5); clear hf5))
          go_quiet (fail)
          have HR6 : Hid ((w5.drewN nq).heap[w.heap.size + 1]? = some (.cells #[.int .i64 0, .int .i64 0, .int .i64 0, .int .i64 0, .int .i64 0, .int .i64 0, .int .i64 0] 90 (0, 0))) := HR5
          go_wp2_with (refine wpList_store_row rfl 90 (.tmp 2) (.tmp 53) rfl (w.heap.size + 1) #[.int .i64 0, .int .i64 0, .int .i64 0, .int .i64 0, .int .i64 0, .int .i64 0, .int .i64 0] rfl rfl 90 #[.int .i64 0, .int .i64 0, .int .i64 0, .int .i64 0, .int .i64 0, .int .i64 0, .int .i64 0] HR6.out HSZ.out rfl HC0.out ?_)
          exact bodyPost_ret (v := .tuple #[.agg #[.int .i64 0, .int .i64 0, .int .i64 0, .int .i64 0, .int .i64 0, .int .i64 0, .int .i64 0], .int .i64 12]) ((results_cell_tmp (p := 2) (u := 3) (ty := 90) (by kernel_rfl) _ _ _).trans (by simp [asAddr, rule_load _ (w.heap.size + 1) #[.int .i64 0, .int .i64 0, .int .i64 0, .int .i64 0, .int .i64 0, .int .i64 0, .int .i64 0] (setRow_heap _ (w.heap.size + 1) _ _ 90 _ HR6.out) rfl])) rfl ⟨by rw [E0.out]; rfl, (HF5.out.drewN _).setRow _ _ (fun o ho => by omega)⟩
        · rw [if_neg (fun x => h4 x.2)] at e1
          have E0 := Lib.hid e1; clear e1
          have hf4 : decide ((2048 - h) / e < n) = false := decide_eq_false h4
          go_wp2_with (first
            | (go_at_call 85; refine (bytes_any l m a ins outs h e k n aA aB A B cA cB _ Ha.out (HA.out.fr HF.out (fun _ _ _ _ _ _ x => x)) hl hl2).mono ?_; rw [HB.out]; rintro e5 w5 ⟨rfl, hf5⟩; have hc5 : ∀ o, w5.cell? ⟨g, o, none⟩ = wc.cell? ⟨g, o, none⟩ := (fun o => hf5.at.1 g o hgl); have hp5 : ∀ o, w5.cell? ⟨w.heap.size, o, none⟩ = wc.cell? ⟨w.heap.size, o, none⟩ := (fun o => hf5.at.1 _ o (by omega)); have HR5 := Lib.hid ((hf5.block (w.heap.size + 1) (by omega) (fun _ x => x)).trans HRES.out); have HF5 := Lib.hid (HF.out.trans hf5); clear hf5))
          go_quiet (fail)
          have HR6 : Hid ((w5.drewN nq).heap[w.heap.size + 1]? = some (.cells #[.int .i64 0, .int .i64 0, .int .i64 0, .int .i64 0, .int .i64 0, .int .i64 0, .int .i64 0] 90 (0, 0))) := HR5
          go_wp2_with (refine wpList_store_row rfl 90 (.tmp 2) (.tmp 54) rfl (w.heap.size + 1) #[.int .i64 l, .int .i64 m, .int .i64 a, .int .i64 ins, .int .i64 outs, .int .i64 h, .int .i64 e] rfl rfl 90 #[.int .i64 0, .int .i64 0, .int .i64 0, .int .i64 0, .int .i64 0, .int .i64 0, .int .i64 0] HR6.out HSZ.out rfl HC1.out ?_)
          exact bodyPost_ret (v := .tuple #[.agg #[.int .i64 l, .int .i64 m, .int .i64 a, .int .i64 ins, .int .i64 outs, .int .i64 h, .int .i64 e], .int .i64 0]) ((results_cell_tmp (p := 2) (u := 3) (ty := 90) (by kernel_rfl) _ _ _).trans (by simp [asAddr, rule_load _ (w.heap.size + 1) #[.int .i64 l, .int .i64 m, .int .i64 a, .int .i64 ins, .int .i64 outs, .int .i64 h, .int .i64 e] (setRow_heap _ (w.heap.size + 1) _ _ 90 _ HR6.out) rfl])) rfl ⟨by rw [E0.out]; rfl, (HF5.out.drewN _).setRow _ _ (fun o ho => by omega)⟩
      · rw [if_neg (fun x => h3 x.1)] at e1
        have E0 := Lib.hid e1; clear e1
        have hf3 : decide (0 < e) = false := decide_eq_false h3
        go_wp2_with (first
            | (go_at_call 85; refine (bytes_any l m a ins outs h e k n aA aB A B cA cB _ Ha.out (HA.out.fr HF.out (fun _ _ _ _ _ _ x => x)) hl hl2).mono ?_; rw [HB.out]; rintro e5 w5 ⟨rfl, hf5⟩; have hc5 : ∀ o, w5.cell? ⟨g, o, none⟩ = wc.cell? ⟨g, o, none⟩ := (fun o => hf5.at.1 g o hgl); have hp5 : ∀ o, w5.cell? ⟨w.heap.size, o, none⟩ = wc.cell? ⟨w.heap.size, o, none⟩ := (fun o => hf5.at.1 _ o (by omega)); have HR5 := Lib.hid ((hf5.block (w.heap.size + 1) (by omega) (fun _ x => x)).trans HRES.out); have HF5 := Lib.hid (HF.out.trans hf5); clear hf5))
        go_quiet (fail)
        have HR6 : Hid ((w5.drewN nq).heap[w.heap.size + 1]? = some (.cells #[.int .i64 0, .int .i64 0, .int .i64 0, .int .i64 0, .int .i64 0, .int .i64 0, .int .i64 0] 90 (0, 0))) := HR5
        go_wp2_with (refine wpList_store_row rfl 90 (.tmp 2) (.tmp 54) rfl (w.heap.size + 1) #[.int .i64 l, .int .i64 m, .int .i64 a, .int .i64 ins, .int .i64 outs, .int .i64 h, .int .i64 e] rfl rfl 90 #[.int .i64 0, .int .i64 0, .int .i64 0, .int .i64 0, .int .i64 0, .int .i64 0, .int .i64 0] HR6.out HSZ.out rfl HC1.out ?_)
        exact bodyPost_ret (v := .tuple #[.agg #[.int .i64 l, .int .i64 m, .int .i64 a, .int .i64 ins, .int .i64 outs, .int .i64 h, .int .i64 e], .int .i64 0]) ((results_cell_tmp (p := 2) (u := 3) (ty := 90) (by kernel_rfl) _ _ _).trans (by simp [asAddr, rule_load _ (w.heap.size + 1) #[.int .i64 l, .int .i64 m, .int .i64 a, .int .i64 ins, .int .i64 outs, .int .i64 h, .int .i64 e] (setRow_heap _ (w.heap.size + 1) _ _ 90 _ HR6.out) rfl])) rfl ⟨by rw [E0.out]; rfl, (HF5.out.drewN _).setRow _ _ (fun o ho => by omega)⟩
theorem ofM_ofN (k n : Int) (A B : List UInt8) (hk : ¬ (k < 1 ∨ 16 < k)) : ofM k n A B = ofN n (rl k).least (rl k).most (rl k).a (rl k).ins (rl k).outs (rl k).holds (rl k).each A B := by
  unfold ofM ofN
  rw [if_neg hk]
set_option maxRecDepth 100000 in
theorem of_any (k n : Int) (aA aB : Option Addr) (A B : List UInt8) (cA cB : Nat) (w : World) (hA : At w aA (A.map bv)) (hl : A.length ≤ 100000000) (hl2 : B.length ≤ 100000000) :
    Calls Try.prog 59 #[.agg #[.int .i64 k, .int .i64 n, .slice aA A.length cA, .slice aB B.length cB]] w (OfPost w (ofM k n A B)) := by
  by_cases hk : k < 1 ∨ 16 < k
  · have e0 : ofM k n A B = (rl0, 10) := by unfold ofM; rw [if_pos hk]
    rw [e0]; clear e0
    have hsz : (Try.prog.info? 90).map (·.size) = some 7 := by kernel_rfl
    have HSZ := Lib.hid hsz
    clear hsz
    have hc0 : (#[.int .i64 0, .int .i64 0, .int .i64 0, .int .i64 0, .int .i64 0, .int .i64 0, .int .i64 0] : Array Value).all (·.oneCell') = true := by simp [Value.oneCell']
    have HC0 := Lib.hid hc0
    clear hc0
    have hb : ((w.alloc (.cells #[.int .i64 k, .int .i64 n, .slice aA A.length cA, .slice aB B.length cB] 41)).alloc (.cells #[.int .i64 0, .int .i64 0, .int .i64 0, .int .i64 0, .int .i64 0, .int .i64 0, .int .i64 0] 90)).heap[w.heap.size + 1]? = some (.cells #[.int .i64 0, .int .i64 0, .int .i64 0, .int .i64 0, .int .i64 0, .int .i64 0, .int .i64 0] 90 (0, 0)) := by
      rw [show w.heap.size + 1 = (w.alloc (.cells #[.int .i64 k, .int .i64 n, .slice aA A.length cA, .slice aB B.length cB] 41)).heap.size from by simp]
      exact heap_alloc_last _ _
    have HB := Lib.hid hb
    clear hb
    rcases hk with hk | hk
    · go_enter Try.func59, Try.ntmps59
      go_wp2_with (refine wpList_store_row rfl 90 (.tmp 2) (.tmp 13) rfl (w.heap.size + 1) #[.int .i64 0, .int .i64 0, .int .i64 0, .int .i64 0, .int .i64 0, .int .i64 0, .int .i64 0] rfl rfl 90 #[.int .i64 0, .int .i64 0, .int .i64 0, .int .i64 0, .int .i64 0, .int .i64 0, .int .i64 0] HB.out HSZ.out rfl HC0.out ?_)
      exact bodyPost_ret (v := .tuple #[.agg #[.int .i64 0, .int .i64 0, .int .i64 0, .int .i64 0, .int .i64 0, .int .i64 0, .int .i64 0], .int .i64 10]) ((results_cell_tmp (p := 2) (u := 3) (ty := 90) (by kernel_rfl) _ _ _).trans (by simp [asAddr, rule_load _ (w.heap.size + 1) #[.int .i64 0, .int .i64 0, .int .i64 0, .int .i64 0, .int .i64 0, .int .i64 0, .int .i64 0] (setRow_heap _ (w.heap.size + 1) _ _ 90 _ HB.out) rfl])) rfl ⟨rfl, (((Fr.refl _ _).alloc _).alloc _).setRow _ _ (fun o ho => by omega)⟩
    · have hk1 : ¬ k < 1 := by omega
      go_enter Try.func59, Try.ntmps59
      go_wp2_with (refine wpList_store_row rfl 90 (.tmp 2) (.tmp 13) rfl (w.heap.size + 1) #[.int .i64 0, .int .i64 0, .int .i64 0, .int .i64 0, .int .i64 0, .int .i64 0, .int .i64 0] rfl rfl 90 #[.int .i64 0, .int .i64 0, .int .i64 0, .int .i64 0, .int .i64 0, .int .i64 0, .int .i64 0] HB.out HSZ.out rfl HC0.out ?_)
      exact bodyPost_ret (v := .tuple #[.agg #[.int .i64 0, .int .i64 0, .int .i64 0, .int .i64 0, .int .i64 0, .int .i64 0, .int .i64 0], .int .i64 10]) ((results_cell_tmp (p := 2) (u := 3) (ty := 90) (by kernel_rfl) _ _ _).trans (by simp [asAddr, rule_load _ (w.heap.size + 1) #[.int .i64 0, .int .i64 0, .int .i64 0, .int .i64 0, .int .i64 0, .int .i64 0, .int .i64 0] (setRow_heap _ (w.heap.size + 1) _ _ 90 _ HB.out) rfl])) rfl ⟨rfl, (((Fr.refl _ _).alloc _).alloc _).setRow _ _ (fun o ho => by omega)⟩
  · rw [ofM_ofN k n A B hk]
    rcases kinds k hk with rfl | rfl | rfl | rfl | rfl | rfl | rfl | rfl | rfl | rfl | rfl | rfl | rfl | rfl | rfl | rfl <;>
      exact of_core _ n _ _ _ _ _ _ _ aA aB A B cA cB w (by decide) (by decide) (fun _ => by kernel_rfl) (by decide) (by decide) (by decide) (by decide) hA hl hl2
end Go.Proofs.Ytljldkknopmfhaa
