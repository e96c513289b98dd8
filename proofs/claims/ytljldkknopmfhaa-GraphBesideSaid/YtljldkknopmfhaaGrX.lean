/- Graphs: what all their laws ask: ints, long, the example, awake. -/
import Derived.Test.YtljldkknopmfhaaGrA
import Derived.Test.YtljldkknopmfhaaGrI
import Derived.Test.YtljldkknopmfhaaGrE
import Derived.Deep.RegionHeld3
namespace Go.Proofs.Ytljldkknopmfhaa
open Go.RowKit

set_option maxRecDepth 100000 in
theorem lints_same (a b : Option Addr) (c c' : Nat) (l : List Int) (n n' : Nat) (hn : n = l.length) (hn' : n' = l.length) (w : World) (ha : At w a (l.map iv)) (hb : At w b (l.map iv)) (hl : l.length ≤ 100000) :
    Calls Try.prog 49 #[.slice a n c, .slice b n' c'] w (RndPost w true) := by
  subst hn; subst hn'
  have hli : (l.length : Int) ≤ 100000 := by omega
  have HA := Lib.hid ha; have HB := Lib.hid hb; clear ha hb
  go_enter Try.func49, Try.ntmps49
  go_wp2
  go_loopw [5] (fun i wr => ∃ k : Nat, k ≤ l.length ∧ i = .int .i64 k ∧ ∃ q, wr = w.drewN q) (fun i _ => l.length - (intOf i).toNat)
  case atStart => exact ⟨0, Nat.zero_le _, rfl, 0, rfl⟩
  case round =>
    obtain ⟨k, hk, rfl, q, rfl⟩ := hrel
    by_cases hlt : k < l.length
    · obtain ⟨ga, oa, rfl, hra⟩ := HA.out (by simp; omega)
      obtain ⟨gb, ob, rfl, hrb⟩ := HB.out (by simp; omega)
      have c1 := hra.get k (iv l[k]) (by simp [hlt])
      have c2 := hrb.get k (iv l[k]) (by simp [hlt])
      unfold iv at c1 c2
      have hki : (k : Int) < l.length := by omega
      clear hra hrb
      generalize l[k] = x at *
      go_wp2_with fail
      go_quiet (fail)
      go_wp2
      go_roundw
      case rel => exact ⟨k + 1, by omega, by go_num, q + nq, by simp⟩
      case measure => simp [intOf]; omega
    · obtain rfl : k = l.length := by omega
      go_wp2
      go_ret
      exact ⟨rfl, (Fr.refl _ _).drewN _⟩

/-- Is a graph gone through? -/
def smlP (x : Gv) : Prop := x.sp.length ≤ 200 ∧ x.du.length ≤ 200 ∧ ∀ s ∈ x.sp, s.s.A.length ≤ 2000 ∧ s.s.B.length ≤ 2000
theorem smlP_iff {x : Gv} : smlP x ↔ Sml x := ⟨fun ⟨a, b, c⟩ => ⟨a, b, c⟩, fun h => ⟨h.s, h.d, h.b⟩⟩
open Classical in
noncomputable def longB (x : Gv) : Bool := decide (¬ Sml x)
open Classical in
theorem longB_yes {x : Gv} (h : ¬ Sml x) : longB x = true := by unfold longB; exact decide_eq_true h
open Classical in
theorem longB_no {x : Gv} (h : Sml x) : longB x = false := by unfold longB; exact decide_eq_false (fun e => e h)
set_option maxHeartbeats 1000000 in
set_option maxRecDepth 100000 in
theorem long_any (w : World) (x : Gv) (hx : x.Ok w) : Calls Try.prog 41 #[.agg #[.slice x.sa x.sp.length x.sc, .slice x.da x.du.length x.dc]] w (RndPost w (longB x)) := by
  by_cases h1 : 200 < x.sp.length
  · rw [longB_yes (fun h => by have := h.s; omega)]
    have h1i : (200 : Int) < x.sp.length := by omega
    clear hx
    go_enter Try.func41, Try.ntmps41
    go_wp2
    go_ret
    exact ⟨rfl, (Fr.refl _ _).alloc _⟩
  · have h1i : ¬ (200 : Int) < x.sp.length := by omega
    by_cases h2 : 200 < x.du.length
    · rw [longB_yes (fun h => by have := h.d; omega)]
      have h2i : (200 : Int) < x.du.length := by omega
      clear hx
      go_enter Try.func41, Try.ntmps41
      go_wp2
      go_ret
      exact ⟨rfl, (Fr.refl _ _).alloc _⟩
    · have h2i : ¬ (200 : Int) < x.du.length := by omega
      have HX := Lib.hid (hx.fr ((Fr.refl No w).alloc (.cells #[.slice x.sa x.sp.length x.sc, .slice x.da x.du.length x.dc] 63)))
      clear hx
      go_enter Try.func41, Try.ntmps41
      go_wp2
      go_loopw [3] (fun i wr => ∃ k : Nat, k ≤ x.sp.length ∧ i = .int .i64 k ∧ Hid (∀ j (h : j < x.sp.length), j < k → (x.sp[j]).s.A.length ≤ 2000 ∧ (x.sp[j]).s.B.length ≤ 2000) ∧ wr = w.alloc (.cells #[.slice x.sa x.sp.length x.sc, .slice x.da x.du.length x.dc] 63)) (fun i _ => x.sp.length - (intOf i).toNat)
      case atStart => exact ⟨0, Nat.zero_le _, rfl, Lib.hid (fun j _ hj => absurd hj (by omega)), rfl⟩
      case round =>
        obtain ⟨k, hk, rfl, HQ, rfl⟩ := hrel
        by_cases hlt : k < x.sp.length
        · obtain ⟨gs, os, hsa, hrow⟩ := HX.out.st.flat sp_len (by decide) (by omega)
          obtain ⟨-, -, c2, c3⟩ := sp_cells hrow hlt
          have hki : (k : Int) < x.sp.length := by omega
          have c0 : (w.alloc (.cells #[.slice x.sa x.sp.length x.sc, .slice x.da x.du.length x.dc] 63)).cell? ⟨w.heap.size, 0, none⟩ = some (.slice (some ⟨gs, os, none⟩) x.sp.length x.sc) := by
            rw [cell_block (heap_alloc_new w _) 0, hsa]; rfl
          have hlong : ¬ ((x.sp[k]).s.A.length ≤ 2000 ∧ (x.sp[k]).s.B.length ≤ 2000) → longB x = true := fun h => longB_yes fun hs => h (hs.b _ (List.getElem_mem hlt))
          have hnext : (x.sp[k]).s.A.length ≤ 2000 → (x.sp[k]).s.B.length ≤ 2000 → ∀ j (h : j < x.sp.length), j < k + 1 → (x.sp[j]).s.A.length ≤ 2000 ∧ (x.sp[j]).s.B.length ≤ 2000 := fun h1 h2 j h hj => by
            by_cases e : j = k
            · subst e; exact ⟨h1, h2⟩
            · exact HQ.out j h (by omega)
          have HLO := Lib.hid hlong; have HN := Lib.hid hnext
          clear hlong hnext hrow
          generalize x.sp[k] = p at *
          obtain ⟨⟨pk, pn, pA, pB⟩, aA, cA, aB, cB⟩ := p
          dsimp only at *
          by_cases hA : 2000 < pA.length
          · have hAi : (2000 : Int) < pA.length := by omega
            have HE := Lib.hid (HLO.out (by omega))
            clear hsa
            go_wp2
            go_ret
            rw [HE.out]
            exact ⟨rfl, (Fr.refl _ _).alloc _⟩
          · have hAi : ¬ (2000 : Int) < pA.length := by omega
            by_cases hB : 2000 < pB.length
            · have hBi : (2000 : Int) < pB.length := by omega
              have HE := Lib.hid (HLO.out (by omega))
              clear hsa
              go_wp2
              go_ret
              rw [HE.out]
              exact ⟨rfl, (Fr.refl _ _).alloc _⟩
            · have hBi : ¬ (2000 : Int) < pB.length := by omega
              have HN2 := Lib.hid (HN.out (by omega) (by omega))
              clear hsa
              go_wp2
              go_roundw
              case rel => exact ⟨k + 1, by omega, by go_num, HN2, by trivial⟩
              case measure => simp [intOf]; omega
        · obtain rfl : k = x.sp.length := by omega
          have HE := Lib.hid (longB_no (x := x) ⟨by omega, by omega, fun s hs => by
            obtain ⟨j, hj, rfl⟩ := List.getElem_of_mem hs
            exact HQ.out j hj hj⟩)
          go_wp2
          go_ret
          rw [HE.out]
          exact ⟨rfl, (Fr.refl _ _).alloc _⟩

/-- The example's graph, where it lies. -/
def exV (bA bs bd : Nat) (ds : List Dct) : Gv := ⟨[⟨⟨1, 0, [], []⟩, none, 0, none, 0⟩, ⟨⟨15, 2, [], []⟩, none, 0, none, 0⟩, ⟨⟨13, 2, [44], []⟩, some ⟨bA, 0, none⟩, 1, none, 0⟩, ⟨⟨2, 0, [], []⟩, none, 0, none, 0⟩], ds, some ⟨bs, 0, none⟩, 4, some ⟨bd, 0, none⟩, 4⟩
def exD : List Dct := [⟨0, 0, 1, 0, 1⟩, ⟨1, 0, 2, 0, 1⟩, ⟨1, 1, 2, 1, 1⟩, ⟨2, 0, 3, 0, 1⟩]
theorem ex_small {bA bs bd : Nat} {ds : List Dct} (h : ds.length ≤ 200) : Sml (exV bA bs bd ds) := ⟨by show 4 ≤ 200; omega, h, fun s hs => by
  simp only [exV, List.mem_cons, List.not_mem_nil, or_false] at hs
  rcases hs with rfl | rfl | rfl | rfl <;> simp⟩
theorem ex_ok {W : World} {bA bs bd : Nat} (h1 : Row W bA 0 [bv 44]) (h2 : Row W bs 0 ((exV bA bs bd exD).sp.flatMap Sp.cells)) (h3 : Row W bd 0 (exD.flatMap Dct.cells)) : (exV bA bs bd exD).Ok W ∧ (exV bA bs bd (exD.take 3)).Ok W := by
  have hsp : ∀ s ∈ (exV bA bs bd exD).sp, s.Ok W := fun s hs => by
    simp only [exV, List.mem_cons, List.not_mem_nil, or_false] at hs
    rcases hs with rfl | rfl | rfl | rfl
    · exact ⟨At.nil _ _, At.nil _ _, by decide, by decide⟩
    · exact ⟨At.nil _ _, At.nil _ _, by decide, by decide⟩
    · exact ⟨fun _ => ⟨bA, 0, rfl, h1⟩, At.nil _ _, show (Lit.int .i64 13).wf = true from by decide, show (Lit.int .i64 2).wf = true from by decide⟩
    · exact ⟨At.nil _ _, At.nil _ _, by decide, by decide⟩
  have hd : ∀ d ∈ exD, d.Ok := fun d hd => by
    simp only [exD, List.mem_cons, List.not_mem_nil, or_false] at hd
    rcases hd with rfl | rfl | rfl | rfl <;> exact ⟨by decide, by decide, by decide, by decide, by decide⟩
  refine ⟨⟨fun _ => ⟨bs, 0, rfl, h2⟩, fun _ => ⟨bd, 0, rfl, h3⟩, hsp, hd⟩, ⟨fun _ => ⟨bs, 0, rfl, h2⟩, fun _ => ⟨bd, 0, rfl, ?_⟩, hsp, fun d h => hd d (List.mem_of_mem_take h)⟩⟩
  exact h3.take 15
def ExPost (w : World) (e : Ending) (w' : World) : Prop := ∃ bA bs bd, e = .returned (.agg #[.slice (some ⟨bs, 0, none⟩) 4 4, .slice (some ⟨bd, 0, none⟩) 4 4]) ∧ (exV bA bs bd exD).Ok w' ∧ (exV bA bs bd (exD.take 3)).Ok w' ∧ Fr No w w'
set_option maxHeartbeats 2000000 in
set_option maxRecDepth 100000 in
theorem example_any (w : World) : Calls Try.prog 69 #[] w (ExPost w) := by
  have hcv : ∀ (W : World) (g : Nat), g = W.heap.size → (convert 29 29 (.slice (some ⟨g, 0, none⟩) 1 1)).run Try.prog (W.alloc (.cells #[.int .u8 44] 5)) = .ok (.slice (some ⟨g, 0, none⟩) 1 1) (W.alloc (.cells #[.int .u8 44] 5 (1, 2))) := fun W g hg =>
    conv_const 29 5 Try.underlying29 Try.underlying5 W #[.int .u8 44] 1 1 g hg
  have hcv2 := hcv (w.alloc (.cells #[.slice none 0 0, .slice none 0 0] 63)) (w.heap.size + 1) (by simp)
  clear hcv
  have hend : ∀ W : World, W = (((w.alloc (.cells #[.slice (some ⟨w.heap.size + 1 + 1, 0, none⟩) 4 4, .slice (some ⟨w.heap.size + 1 + 1 + 1, 0, none⟩) 4 4] 63)).alloc (.cells #[.int .u8 44] 5 (1, 2))).alloc (.cells ((exV (w.heap.size + 1) (w.heap.size + 1 + 1) (w.heap.size + 1 + 1 + 1) exD).sp.flatMap Sp.cells).toArray 41)).alloc (.cells (exD.flatMap Dct.cells).toArray 72) →
      W.heap[w.heap.size]? = some (.cells #[.slice (some ⟨w.heap.size + 1 + 1, 0, none⟩) 4 4, .slice (some ⟨w.heap.size + 1 + 1 + 1, 0, none⟩) 4 4] 63 (0, 0)) ∧
      ExPost w (.returned (.agg #[.slice (some ⟨w.heap.size + 1 + 1, 0, none⟩) 4 4, .slice (some ⟨w.heap.size + 1 + 1 + 1, 0, none⟩) 4 4])) W := by
    rintro W rfl
    have r1 := row_at (w.alloc (.cells #[.slice (some ⟨w.heap.size + 1 + 1, 0, none⟩) 4 4, .slice (some ⟨w.heap.size + 1 + 1 + 1, 0, none⟩) 4 4] 63)) #[.int .u8 44] [bv 44] rfl (w.heap.size + 1) (by simp) 5 (1, 2)
    have r2 := row_at ((w.alloc (.cells #[.slice (some ⟨w.heap.size + 1 + 1, 0, none⟩) 4 4, .slice (some ⟨w.heap.size + 1 + 1 + 1, 0, none⟩) 4 4] 63)).alloc (.cells #[.int .u8 44] 5 (1, 2))) ((exV (w.heap.size + 1) (w.heap.size + 1 + 1) (w.heap.size + 1 + 1 + 1) exD).sp.flatMap Sp.cells).toArray _ rfl (w.heap.size + 1 + 1) (by simp) 41 (0, 0)
    have r3 := row_at (((w.alloc (.cells #[.slice (some ⟨w.heap.size + 1 + 1, 0, none⟩) 4 4, .slice (some ⟨w.heap.size + 1 + 1 + 1, 0, none⟩) 4 4] 63)).alloc (.cells #[.int .u8 44] 5 (1, 2))).alloc (.cells ((exV (w.heap.size + 1) (w.heap.size + 1 + 1) (w.heap.size + 1 + 1 + 1) exD).sp.flatMap Sp.cells).toArray 41)) (exD.flatMap Dct.cells).toArray _ rfl (w.heap.size + 1 + 1 + 1) (by simp) 72 (0, 0)
    have no : ∀ b o, ¬ No b o := fun _ _ y => y
    obtain ⟨k1, k2⟩ := ex_ok (r1.fr (((Fr.refl No _).alloc _).alloc _) (fun _ _ y => y)) (r2.fr ((Fr.refl No _).alloc _) (fun _ _ y => y)) r3
    exact ⟨box_block ((((Fr.refl No _).alloc _).alloc _).alloc _), _, _, _, rfl, k1, k2, ((((Fr.refl No w).alloc _).alloc _).alloc _).alloc _⟩
  have HEND := Lib.hid hend
  clear hend
  go_enter Try.func69, Try.ntmps69
  go_wp2
  obtain ⟨h1, h2⟩ := HEND.out _ rfl
  exact bodyPost_ret (v := .agg #[.slice (some ⟨w.heap.size + 1 + 1, 0, none⟩) 4 4, .slice (some ⟨w.heap.size + 1 + 1 + 1, 0, none⟩) 4 4]) (results_cell_row (p := 0) (ty := 63) (by kernel_rfl) _ _ w.heap.size 63 _ (0, 0) _ rfl h1 Try.underlying63 rfl (by kernel_rfl)) rfl h2
section
variable {W : World} {bA bs bd : Nat}
def ExCk (w : World) (a b : Int) (e : Ending) (w' : World) : Prop := e = .returned (.tuple #[.int .i64 a, .int .i64 b]) ∧ Fr No w w'
theorem ex_checks (h : (exV bA bs bd exD).Ok W) : Calls Try.prog 44 #[.agg #[.slice (some ⟨bs, 0, none⟩) 4 4, .slice (some ⟨bd, 0, none⟩) 4 4]] W (ExCk W 0 0) := by
  have h1 := check_graph W (exV bA bs bd exD) h (ex_small (by decide))
  unfold CheckPost at h1
  rw [show (exV bA bs bd exD).g = exG from rfl, ex_check] at h1
  exact h1
theorem exh_checks (h : (exV bA bs bd (exD.take 3)).Ok W) : Calls Try.prog 44 #[.agg #[.slice (some ⟨bs, 0, none⟩) 4 4, .slice (some ⟨bd, 0, none⟩) 3 4]] W (ExCk W 2 13) := by
  have h1 := check_graph W (exV bA bs bd (exD.take 3)) h (ex_small (by decide))
  unfold CheckPost at h1
  rw [show (exV bA bs bd (exD.take 3)).g = exH from rfl, exh_check] at h1
  exact h1
def ExOr (w : World) (e : Ending) (w' : World) : Prop := ∃ a c, e = .returned (.tuple #[.slice a 4 c, .int .i64 0]) ∧ At w' a (([0, 1, 2, 3] : List Int).map iv) ∧ Fr No w w'
theorem ex_orders (h : (exV bA bs bd exD).Ok W) : Calls Try.prog 47 #[.agg #[.slice (some ⟨bs, 0, none⟩) 4 4, .slice (some ⟨bd, 0, none⟩) 4 4]] W (ExOr W) := by
  have h1 := order_graph W (exV bA bs bd exD) h (ex_small (by decide))
  unfold OrderPost at h1
  rw [show (exV bA bs bd exD).g = exG from rfl, ex_check, ex_order] at h1
  exact h1
def ExRw (w : World) (e : Ending) (w' : World) : Prop := ∃ a c, e = .returned (.slice a 2 c) ∧ At w' a (([1, 2] : List Int).map iv) ∧ Fr No w w'
theorem ex_inss (h : (exV bA bs bd exD).Ok W) : Calls Try.prog 50 #[.agg #[.slice (some ⟨bs, 0, none⟩) 4 4, .slice (some ⟨bd, 0, none⟩) 4 4], .int .i64 2] W (ExRw W) := by
  have h1 := ins_graph W (exV bA bs bd exD) h (ex_small (by decide)) 2
  unfold RowPost at h1
  rw [show (exV bA bs bd exD).g = exG from rfl, ex_ins] at h1
  exact h1
theorem ex_outss (h : (exV bA bs bd exD).Ok W) : Calls Try.prog 51 #[.agg #[.slice (some ⟨bs, 0, none⟩) 4 4, .slice (some ⟨bd, 0, none⟩) 4 4], .int .i64 1] W (ExRw W) := by
  have h1 := outs_graph W (exV bA bs bd exD) h (ex_small (by decide)) 1
  unfold RowPost at h1
  rw [show (exV bA bs bd exD).g = exG from rfl, ex_outs] at h1
  exact h1
end
theorem at_keep {w W : World} {a : Option Addr} {vs : List Value} (h : At w a vs) (f : Fr No w W) : At W a vs := h.fr f (fun _ _ _ _ _ _ x => x)
theorem at_new (w : World) (vs : List Value) (t : TypeId) : At (w.alloc (.cells vs.toArray t)) (some ⟨w.heap.size, 0, none⟩) vs := fun _ => ⟨_, 0, rfl, row_new w vs t (0, 0)⟩
/-- A row of other values stays. -/
theorem at_set {w : World} {a : Option Addr} {vs : List Value} (h : At w a vs) {g k : Nat} {u : Value} (hc : w.cell? ⟨g, k, none⟩ = some u) (hu : u ∉ vs) (v : Value) : At (w.setCell ⟨g, k, none⟩ v) a vs := by
  intro hp
  obtain ⟨b, o, rfl, hr⟩ := h hp
  refine ⟨b, o, rfl, hr.fr (frSet w g k v) fun i hi e => ?_⟩
  obtain ⟨e1, e2⟩ := e
  have h1 := hr.get i vs[i] (by simp [hi])
  rw [e1, e2, hc] at h1
  injection h1 with h1
  exact hu (h1 ▸ List.getElem_mem _)
theorem slice_no_int {a : Option Addr} {n c : Nat} (l : List Int) : Value.slice a n c ∉ l.map iv := fun h => by
  obtain ⟨x, _, e⟩ := List.mem_map.1 h
  cases e
set_option maxHeartbeats 4000000 in
set_option maxRecDepth 100000 in
theorem awake20 (w : World) : Calls Try.prog 42 #[] w (RndPost w true) := by
  have HEX := Lib.hid (example_any w)
  obtain ⟨j0, hj⟩ := Option.isSome_iff_exists.1 (show (Try.prog.info? 72).isSome = true by kernel_rfl)
  have hsl : ∀ (bd : Nat) (W : World), (Instr.slice 61 (.slice (some ⟨bd, 0, none⟩) 4 4) none (some (.int .i64 3)) none).run Try.prog W = .ok (.slice (some ⟨bd, 0, none⟩) 3 4) W := fun bd W =>
    run_slice_to (P := Try.prog) W 61 72 (some ⟨bd, 0, none⟩) 4 4 3 j0 Try.underlying61 hj (by decide)
  have HSL := Lib.hid hsl
  clear hsl hj
  go_enter Try.func42, Try.ntmps42
  go_wp2_with (first
    | (go_at_call 69; refine HEX.out.mono ?_; rintro e w1 ⟨bA, bs, bd, rfl, hx1, hx3, hf1⟩
       have HX1 := Lib.hid hx1; have HX3 := Lib.hid hx3; have HF1 := Lib.hid hf1
       have hsl := HSL.out bd
       have HBX := Lib.hid (fun (W : World) (h : Fr No (w1.alloc (.cells #[.slice (some ⟨bs, 0, none⟩) 4 4, .slice (some ⟨bd, 0, none⟩) 4 4] 63)) W) => box_block h)
       clear hx1 hx3 hf1)
    | (go_at_call 44; refine (ex_checks (HX1.out.fr ((Fr.refl No w1).alloc _))).mono ?_; rintro e w2 ⟨rfl, hf2⟩
       have HF2 := Lib.hid hf2
       have HB2 := Lib.hid (HBX.out _ hf2)
       have c20 := cell_block HB2.out 0; have c21 := cell_block HB2.out 1
       clear hf2)
    | (go_at_call 47; refine (ex_orders (HX1.out.fr (((Fr.refl No w1).alloc _).trans HF2.out))).mono ?_; rintro e w3 ⟨a3, c3, rfl, hat3, hf3⟩
       have HF3 := Lib.hid (HF2.out.trans hf3); have HA3 := Lib.hid hat3
       clear hf3 hat3 c20 c21))
  have HK := Lib.hid (fun (W : World) (h : Fr No w3 W) => show W.cell? ⟨w1.heap.size, 0, none⟩ = some (.slice (some ⟨bs, 0, none⟩) 4 4) ∧ W.cell? ⟨w1.heap.size, 1, none⟩ = some (.slice (some ⟨bd, 0, none⟩) 4 4) from
    ⟨cell_block (HBX.out _ (HF3.out.trans h)) 0, cell_block (HBX.out _ (HF3.out.trans h)) 1⟩)
  have HXK := Lib.hid (fun (W : World) (h : Fr No w3 W) => HX1.out.fr ((((Fr.refl No w1).alloc _).trans HF3.out).trans h))
  go_region_held3 (fun W => W.cell? ⟨w1.heap.size, 0, none⟩ = some (.slice (some ⟨bs, 0, none⟩) 4 4) ∧ W.cell? ⟨w1.heap.size, 1, none⟩ = some (.slice (some ⟨bd, 0, none⟩) 4 4))
    (first | exact HK.out _ (Fr.refl _ _).drew | exact HK.out _ HF5.out | exact HK.out _ HF4.out)
    (first
      | (go_at_call 50; refine (ex_inss (HXK.out _ (Fr.refl _ _).drew)).mono ?_; rintro e w4 ⟨a4, c4, rfl, hat4, hf4⟩
         have HF4 := Lib.hid ((Fr.refl No w3).drew.trans hf4); have HA4 := Lib.hid hat4; clear hf4 hat4)
      | (go_at_call 51; refine (ex_outss (HXK.out _ HF4.out)).mono ?_; rintro e w5 ⟨a5, c5, rfl, hat5, hf5⟩
         have HF5 := Lib.hid (HF4.out.trans hf5); have HA5 := Lib.hid hat5; have HA45 := Lib.hid (at_keep HA4.out hf5); clear hf5 hat5))
  obtain ⟨c50, c51⟩ := HK.out _ HF5.out
  have HB5 := HBX.out _ (HF3.out.trans HF5.out)
  have z51 := frozen_block HB5 1
  have K5 : Fr No w1 w5 := (((Fr.refl No w1).alloc _).trans HF3.out).trans HF5.out
  have K6 := Lib.hid (show Fr No w1 (w5.setCell ⟨w1.heap.size, 1, none⟩ (.slice (some ⟨bd, 0, none⟩) 3 4)) from K5.setCell (fun h => absurd h (by omega)) _)
  have B3 := Lib.hid (at_set (at_keep HA3.out HF5.out) c51 (slice_no_int _) (.slice (some ⟨bd, 0, none⟩) 3 4))
  have B4 := Lib.hid (at_set HA45.out c51 (slice_no_int _) (.slice (some ⟨bd, 0, none⟩) 3 4))
  have B5 := Lib.hid (at_set HA5.out c51 (slice_no_int _) (.slice (some ⟨bd, 0, none⟩) 3 4))
  have HCH := Lib.hid (exh_checks (HX3.out.fr K6.out))
  clear HB5 K5 HX1 HBX HK HXK HA3 HA4 HA45 HA5
  go_wp2_with (first
    | (go_at_call 44; refine HCH.out.mono ?_; rintro e w7 ⟨rfl, hf7⟩
       have K7 := Lib.hid (K6.out.trans hf7)
       have D3 := Lib.hid (at_keep B3.out hf7); have D4 := Lib.hid (at_keep B4.out hf7); have D5 := Lib.hid (at_keep B5.out hf7)
       clear hf7)
    | (go_at_call_of 49 (Value.slice a3 4 c3)
       refine (lints_same a3 _ c3 _ [0, 1, 2, 3] 4 4 rfl rfl _ (at_keep D3.out ((Fr.refl No w7).alloc _)) (at_new w7 (([0, 1, 2, 3] : List Int).map iv) 3) (by decide)).mono ?_; rintro e w8 ⟨rfl, hf8⟩
       have K8 := Lib.hid ((Fr.refl No w7).alloc _ |>.trans hf8)
       clear hf8)
    | (go_at_call_of 49 (Value.slice a4 2 c4)
       refine (lints_same a4 _ c4 _ [1, 2] 2 2 rfl rfl _ (at_keep D4.out (K8.out.trans ((Fr.refl No w8).alloc _))) (at_new w8 (([1, 2] : List Int).map iv) 3) (by decide)).mono ?_; rintro e w9 ⟨rfl, hf9⟩
       have K9 := Lib.hid (K8.out.trans ((Fr.refl No w8).alloc _ |>.trans hf9))
       clear hf9)
    | (go_at_call_of 49 (Value.slice a5 2 c5)
       refine (lints_same a5 _ c5 _ [1, 2] 2 2 rfl rfl _ (at_keep D5.out (K9.out.trans ((Fr.refl No w9).alloc _))) (at_new w9 (([1, 2] : List Int).map iv) 3) (by decide)).mono ?_; rintro e w10 ⟨rfl, hf10⟩
       have K10 := Lib.hid (K9.out.trans ((Fr.refl No w9).alloc _ |>.trans hf10))
       clear hf10))
  go_ret
  exact ⟨rfl, (HF1.out.trans K7.out).trans K10.out⟩
/-- A law's argument behind its box. -/
theorem gbox (w : World) (x : Gv) {W : World} (h : Fr No (w.alloc (.cells #[.slice x.sa x.sp.length x.sc, .slice x.da x.du.length x.dc] 63)) W) :
    W.cell? ⟨w.heap.size, 0, none⟩ = some (.slice x.sa x.sp.length x.sc) ∧ W.cell? ⟨w.heap.size, 1, none⟩ = some (.slice x.da x.du.length x.dc) := ⟨cell_block (box_block h) 0, cell_block (box_block h) 1⟩
end Go.Proofs.Ytljldkknopmfhaa
