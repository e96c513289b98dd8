/- The document's copy of parameters. -/
import Derived.Test.YtljldkknopmfhaaParF
namespace Go.Proofs.Ytljldkknopmfhaa
open Go.RowKit

theorem params_load (W : World) (g : Nat) (cs : Array Value) (hg : W.heap[g]? = some (.cells cs 41 (0, 0))) (hs : cs.size = 4) : (loadVar 41 ⟨g, 0, none⟩).run Try.prog W = .ok (.agg cs) W :=
  run_loadVar_row W g 41 41 cs (0, 0) _ hg Try.underlying41 rfl (by rw [hs]; kernel_rfl)
def OwnPost (w : World) (k n : Int) (A B : List UInt8) (e : Ending) (w' : World) : Prop :=
  ∃ a c b d, e = .returned (.agg #[.int .i64 k, .int .i64 n, .slice a A.length c, .slice b B.length d]) ∧ At w' a (A.map bv) ∧ At w' b (B.map bv) ∧ Fr No w w' ∧
    (∀ x, (Value.slice a A.length c).ownBlock = some x → w.heap.size ≤ x) ∧ (∀ x, (Value.slice b B.length d).ownBlock = some x → w.heap.size ≤ x)
theorem own_empty_at (w : World) (e : TypeId) (size g : Nat) (hg : g = w.heap.size) : OwnSl (w.alloc (.cells #[] e)) e size (.slice (some ⟨g, 0, none⟩) 0 0) 0 [] := by
  subst hg; exact own_empty w e size
/-- Blocks below B, where only a block from B on was written. -/
theorem Fr.far {W w1 : World} {v : Value} {B : Nat} (h : Fr (Blk v) W w1) (hv : ∀ x, v.ownBlock = some x → B ≤ x) (hB : B ≤ W.heap.size) :
    (∀ b o, b < B → w1.cell? ⟨b, o, none⟩ = W.cell? ⟨b, o, none⟩) ∧ (∀ b o, b < B → w1.frozen? ⟨b, o, none⟩ = W.frozen? ⟨b, o, none⟩) ∧ (∀ b, b < B → w1.heap[b]? = W.heap[b]?) :=
  ⟨fun b o hb => h.cell b o (by omega) (fun x => by have := hv _ x; omega), fun b o hb => h.frozen b o (by omega) (fun x => by have := hv _ x; omega), fun b hb => h.block b (by omega) (fun o x => by have := hv _ x; omega)⟩
set_option maxHeartbeats 2000000 in
set_option maxRecDepth 100000 in
theorem own_any (k n : Int) (aA aB : Option Addr) (A B : List UInt8) (cA cB : Nat) (w : World) (hA : At w aA (A.map bv)) (hB : At w aB (B.map bv)) (hl : A.length ≤ 100000000) (hl2 : B.length ≤ 100000000) :
    Calls Try.prog 26 #[.agg #[.int .i64 k, .int .i64 n, .slice aA A.length cA, .slice aB B.length cB]] w (OwnPost w k n A B) := by
  obtain ⟨j0, hj, jz0, jz1, jz2⟩ := info_parts Try.info5
  have HA := Lib.hid hA; have HB := Lib.hid hB
  clear hA hB
  have hsz : (Try.prog.info? 41).map (·.size) = some 4 := by kernel_rfl
  have HSZ := Lib.hid hsz
  clear hsz
  go_enter Try.func26, Try.ntmps26
  go_wp2_with (first
    | (at_builtin; refine wpList_append_sl rfl (.tmp 3) (.tmp 5) 29 29 rfl 5 j0 (.int .u8 0) 1 1 Try.underlying29 hj jz0 jz1 jz2 rfl (by decide) (.slice (some ⟨w.heap.size + 1 + 1, 0, none⟩) 0 0) 0 [] rfl (own_empty_at _ 5 1 _ (by simp)) _ A.length (A.map bv) rfl (src_slice Try.underlying29 (by simp) (at_no HA.out ((((Fr.refl No w).alloc _).alloc _).alloc _)) (by simp [Value.oneCell'])) (by omega) (by omega) ?_; intro v1 w1 hown1 hfr1 hblk1; rw [Nat.zero_add, List.nil_append] at hown1; obtain ⟨a1, c1, hv1, hat1, _⟩ := hown1.at; subst hv1;
        have hs1 := hfr1.size; simp at hs1; have hs1' : w.heap.size < w1.heap.size := (by omega);
        obtain ⟨hc1, hz1, hh1⟩ := hfr1.far (B := w.heap.size + 1 + 1) (fun x e => by have e' : some (w.heap.size + 1 + 1) = some x := e; injection e' with e'; omega) (by simp);
        have q0 : w1.cell? ⟨w.heap.size, 0, none⟩ = some (.int .i64 k) := ((hc1 _ _ (by omega)).trans (by simp [go_sem]));
        have q1 : w1.cell? ⟨w.heap.size, 1, none⟩ = some (.int .i64 n) := ((hc1 _ _ (by omega)).trans (by simp [go_sem]));
        have q2 : w1.cell? ⟨w.heap.size, 2, none⟩ = some (.slice aA A.length cA) := ((hc1 _ _ (by omega)).trans (by simp [go_sem]));
        have q3 : w1.cell? ⟨w.heap.size, 3, none⟩ = some (.slice aB B.length cB) := ((hc1 _ _ (by omega)).trans (by simp [go_sem]));
        have z2 : w1.frozen? ⟨w.heap.size, 2, none⟩ = false := ((hz1 _ _ (by omega)).trans (by simp [go_sem]));
        have z3 : w1.frozen? ⟨w.heap.size, 3, none⟩ = false := ((hz1 _ _ (by omega)).trans (by simp [go_sem]));
        have HH1 := Lib.hid hh1; have HO1 := Lib.hid hown1; have HF1 := Lib.hid hfr1; have HB1 := Lib.hid hblk1; have HT1 := Lib.hid hat1;
        clear hc1 hz1 hh1 hown1 hfr1 hblk1 hat1)
    | (at_builtin; refine wpList_append_sl rfl (.tmp 8) (.tmp 10) 29 29 rfl 5 j0 (.int .u8 0) 1 1 Try.underlying29 hj jz0 jz1 jz2 rfl (by decide) (.slice (some ⟨w1.heap.size, 0, none⟩) 0 0) 0 [] rfl (own_empty_at _ 5 1 _ (by simp)) _ B.length (B.map bv) rfl (src_slice Try.underlying29 (by simp) (at_no HB.out (((((Fr.refl No w).alloc _).alloc _).alloc _ |>.step HF1.out (fun b o hb e => by have e' : some (w.heap.size + 1 + 1) = some b := e; injection e' with e'; omega)).setCell (fun h => absurd h (by omega)) _ |>.alloc _)) (by simp [Value.oneCell'])) (by omega) (by omega) ?_; intro v2 w2 hown2 hfr2 hblk2; rw [Nat.zero_add, List.nil_append] at hown2; obtain ⟨a2, c2, hv2, hat2, _⟩ := hown2.at; subst hv2;
        have hs2 := hfr2.size; simp at hs2; have hs2' : w.heap.size < w2.heap.size := (by omega);
        obtain ⟨hc2, hz2, hh2⟩ := hfr2.far (B := w1.heap.size) (fun x e => by have e' : some w1.heap.size = some x := e; injection e' with e'; omega) (by simp);
        have r0 : w2.cell? ⟨w.heap.size, 0, none⟩ = some (.int .i64 k) := ((hc2 _ _ (by omega)).trans (by go_simp));
        have r1 : w2.cell? ⟨w.heap.size, 1, none⟩ = some (.int .i64 n) := ((hc2 _ _ (by omega)).trans (by go_simp));
        have r2 : w2.cell? ⟨w.heap.size, 2, none⟩ = some (.slice a1 A.length c1) := ((hc2 _ _ (by omega)).trans (by go_simp));
        have r3 : w2.cell? ⟨w.heap.size, 3, none⟩ = some (.slice aB B.length cB) := ((hc2 _ _ (by omega)).trans (by go_simp));
        have y3 : w2.frozen? ⟨w.heap.size, 3, none⟩ = false := ((hz2 _ _ (by omega)).trans (by go_simp));
        have hres : w2.heap[w.heap.size + 1]? = some (.cells #[.int .i64 0, .int .i64 0, .slice none 0 0, .slice none 0 0] 41 (0, 0)) := (by
          rw [hh2 _ (by omega)]
          rw [((Fr.refl (fun b _ => b = w.heap.size) w1).setCell (fun _ => rfl) _ |>.alloc _).block (w.heap.size + 1) (by omega) (fun o x => by simp at x), HH1.out _ (by omega)]
          rw [Fr.block ((Fr.refl No ((w.alloc (.cells #[.int .i64 k, .int .i64 n, .slice aA A.length cA, .slice aB B.length cB] 41)).alloc (.cells #[.int .i64 0, .int .i64 0, .slice none 0 0, .slice none 0 0] 41))).alloc (.cells #[] 5)) (w.heap.size + 1) (by simp) (fun _ x => x)]
          rw [show w.heap.size + 1 = (w.alloc (.cells #[.int .i64 k, .int .i64 n, .slice aA A.length cA, .slice aB B.length cB] 41)).heap.size from by simp]
          exact heap_alloc_new _ _);
        have hresv : ∀ v, (w2.setCell ⟨w.heap.size, 3, none⟩ v).heap[w.heap.size + 1]? = some (.cells #[.int .i64 0, .int .i64 0, .slice none 0 0, .slice none 0 0] 41 (0, 0)) := (fun v => (((Fr.refl (fun b _ => b = w.heap.size) w2).setCell (fun _ => rfl) v).block (w.heap.size + 1) (by omega) (fun o x => by simp at x)).trans hres);
        have HRES := Lib.hid hresv; have HO2 := Lib.hid hown2; have HF2 := Lib.hid hfr2; have HB2 := Lib.hid hblk2; have HT2 := Lib.hid hat2;
        clear hc2 hz2 hh2 hown2 hfr2 hblk2 hat2 hres hresv)
    | (refine wpList_store_row rfl 41 (.tmp 2) (.tmp 13) rfl (w.heap.size + 1) #[.int .i64 k, .int .i64 n, .slice a1 A.length c1, .slice a2 B.length c2] rfl rfl 41 #[.int .i64 0, .int .i64 0, .slice none 0 0, .slice none 0 0] (HRES.out _) HSZ.out rfl (by simp [Value.oneCell']) ?_))
  have k1 : Fr No w w1 := (((Fr.refl No w).alloc _).alloc _).alloc _ |>.step HF1.out (fun b o hb e => by have e' : some (w.heap.size + 1 + 1) = some b := e; injection e' with e'; omega)
  have k2 : Fr No w w2 := (k1.setCell (fun h => absurd h (by omega)) _ |>.alloc _).step HF2.out (fun b o hb e => by have e' : some w1.heap.size = some b := e; injection e' with e'; omega)
  have hn1 : ∀ x, (Value.slice a1 A.length c1).ownBlock = some x → w.heap.size + 1 + 1 ≤ x := fun x e => by
    rcases HB1.out with h | h
    · rw [h] at e; have e' : some (w.heap.size + 1 + 1) = some x := e; injection e' with e'; omega
    · rw [h] at e; injection e with e; simp at e; omega
  have hn2 : ∀ x, (Value.slice a2 B.length c2).ownBlock = some x → w1.heap.size ≤ x := fun x e => by
    rcases HB2.out with h | h
    · rw [h] at e; have e' : some w1.heap.size = some x := e; injection e' with e'; omega
    · rw [h] at e; injection e with e; simp at e; omega
  have m2 : Fr (fun b _ => b = w.heap.size ∨ b = w.heap.size + 1) w2 ((w2.setCell ⟨w.heap.size, 3, none⟩ (.slice a2 B.length c2)).setRow (w.heap.size + 1) #[.int .i64 k, .int .i64 n, .slice a1 A.length c1, .slice a2 B.length c2]) :=
    ((Fr.refl _ _).setCell (fun _ => .inl rfl) _).setRow _ _ (fun _ _ => .inr rfl)
  have m1 : Fr (fun b _ => b = w.heap.size ∨ b = w.heap.size + 1 ∨ w1.heap.size ≤ b) w1 w2 :=
    (((Fr.refl _ _).setCell (fun _ => .inl rfl) _).alloc _).step HF2.out (fun b o hb e => by have e' : some w1.heap.size = some b := e; injection e' with e'; omega)
  refine bodyPost_ret (v := .agg #[.int .i64 k, .int .i64 n, .slice a1 A.length c1, .slice a2 B.length c2]) (results_cell_row (p := 2) (ty := 41) (by kernel_rfl) _ _ (w.heap.size + 1) 41 #[.int .i64 k, .int .i64 n, .slice a1 A.length c1, .slice a2 B.length c2] (0, 0) _ rfl (setRow_heap _ (w.heap.size + 1) _ _ 41 _ (HRES.out _)) Try.underlying41 rfl HSZ.out) rfl ⟨a1, c1, a2, c2, rfl, ?_, ?_, (k2.setCell (fun h => absurd h (by omega)) _).setRow _ _ (fun o h => absurd h (by omega)), fun x e => by have := hn1 x e; omega, fun x e => by have := hn2 x e; omega⟩
  · refine HT1.out.fr (m1.trans (m2.mono (fun b o _ h => by omega))) (fun g off e hg i hi => ?_)
    have := hn1 g (by rw [e]; rfl)
    omega
  · refine HT2.out.fr m2 (fun g off e hg i hi => ?_)
    have := hn2 g (by rw [e]; rfl)
    omega
end Go.Proofs.Ytljldkknopmfhaa
