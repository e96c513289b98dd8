/- Graphs: whole and Check. -/
import Derived.Test.YtljldkknopmfhaaGrL
import Derived.Test.YtljldkknopmfhaaGrC
namespace Go.Proofs.Ytljldkknopmfhaa
open Go.RowKit

/-- The rows of all ports. -/
def Rows32 (W : World) (lo : Nat) (x : Gv) (f : Nat → Value) : Prop := ∀ s, s < 32 → Rw W lo (f s) (x.g.tab x.sp.length x.du.length s)
theorem tab_outs (x : Gv) (s : Nat) : x.g.tab x.sp.length x.du.length (16 + s) = x.g.outsOf s := by rw [tab_out]; unfold Gr.outsOf; rw [x.st_len, x.du_len]
theorem tab_ins (x : Gv) {s : Nat} (hs : s < 16) : x.g.tab x.sp.length x.du.length s = x.g.insOf s := by rw [tab_in hs]; unfold Gr.insOf; rw [x.st_len, x.du_len]
theorem ports_few {w : World} {x : Gv} (hx : x.Ok w) (hl : x.g.Laid) {s : Nat} (hs : s < x.sp.length) : (x.g.insOf s).length ≤ 4 ∧ (x.g.outsOf s).length ≤ 4 := by
  have h0 := hl.st s (by rw [x.st_len]; exact hs)
  have hrg := stg_range (x.sp[s]).s (hx.sp _ (List.getElem_mem hs)).most
  unfold Gr.stBad at h0
  rw [x.s_at hs] at h0
  obtain ⟨_, _, _, _⟩ := hrg h0
  unfold Gr.insOf Gr.outsOf
  rw [inRow_len (by rw [x.st_len]; exact hs), outRow_len (by rw [x.st_len]; exact hs), x.s_at hs]
  omega
theorem Rows32.out {W : World} {lo : Nat} {x : Gv} {f : Nat → Value} (h : Rows32 W lo x f) (hn : x.sp.length ≤ 16) : OutRows W x f := fun s hs => by
  have := (h (16 + s) (by omega)).slice
  rwa [tab_outs] at this
theorem Rows32.fr {S : Nat → Nat → Prop} {W W' : World} {lo : Nat} {x : Gv} {f : Nat → Value} (h : Rows32 W lo x f) (k : Fr S W W') (hS : ∀ b o, lo ≤ b → b < W.heap.size → ¬ S b o) : Rows32 W' lo x f :=
  fun s hs => (h s hs).fr k fun b hb o => by obtain ⟨h1, h2, _⟩ := (h s hs).lt hb; exact hS b o h1 h2
theorem Rows32.low {W : World} {lo lo' : Nat} {x : Gv} {f : Nat → Value} (h : Rows32 W lo x f) (hl : lo' ≤ lo) : Rows32 W lo' x f := fun s hs => by
  rcases h s hs with h | ⟨b, h1, h2, h3⟩
  · exact .inl h
  · exact .inr ⟨b, h1, by omega, h3⟩
def WholePost (w : World) (x : Gv) (e : Ending) (w' : World) : Prop :=
  ∃ f, e = .returned (.tuple #[.agg (tabC 32 f), .int .i64 x.g.check.1, .int .i64 x.g.check.2]) ∧ Fr No w w' ∧ (∀ k, k < 32 → (f k).oneCell' = true) ∧ (x.g.check.2 = 0 → Rows32 w' w.heap.size x f)
/-- The memory of whole, behind laid. -/
structure WH (w : World) (x : Gv) (f : Nat → Value) (lo b5 : Nat) (W : World) : Prop where
  p5 : W.heap[b5]? = some (.cells (tabC 32 f) 102 (0, 0))
  bp : W.heap[w.heap.size + 1]? = some (.cells (tabC 32 fun _ => .slice none 0 0) 102 (0, 0))
  gb : W.heap[w.heap.size]? = some (.cells #[.slice x.sa x.sp.length x.sc, .slice x.da x.du.length x.dc] 63 (0, 0))
  fr : Fr No w W
  lo : w.heap.size + 1 < lo
theorem WH.keep {w W W' : World} {x : Gv} {f : Nat → Value} {lo b5 : Nat} (h : WH w x f lo b5 W) (r : Fr No W W') : WH w x f lo b5 W' :=
  ⟨(r.block _ (heap_lt h.p5) (fun _ y => y)).trans h.p5, (r.block _ (heap_lt h.bp) (fun _ y => y)).trans h.bp, (r.block _ (heap_lt h.gb) (fun _ y => y)).trans h.gb, h.fr.trans r, h.lo⟩
theorem WH.done {w W : World} {x : Gv} {f : Nat → Value} {lo b5 : Nat} (h : WH w x f lo b5 W) (h1 : ∀ k, k < 32 → (f k).oneCell' = true) (h2 : x.g.check.2 = 0 → Rows32 W lo x f) :
    WholePost w x (.returned (.tuple #[.agg (tabC 32 f), .int .i64 x.g.check.1, .int .i64 x.g.check.2])) (W.setRow (w.heap.size + 1) (tabC 32 f)) :=
  ⟨f, rfl, h.fr.step (frSetRow W _ _) (fun b o hb e => by omega), h1, fun e => ((h2 e).fr (frSetRow W _ _) (fun b o hb _ e => by have := h.lo; omega)).low (by have := h.lo; omega)⟩
set_option maxHeartbeats 8000000 in
set_option maxRecDepth 100000 in
theorem whole_any (w : World) (x : Gv) (hx : x.Ok w) (hsm : Sml x) : Calls Try.prog 70 #[.agg #[.slice x.sa x.sp.length x.sc, .slice x.da x.du.length x.dc]] w (WholePost w x) := by
  have HS := Lib.hid (lh_start w x)
  have HZ0 := Lib.hid (show (#[.slice none 0 0, .slice none 0 0, .slice none 0 0, .slice none 0 0, .slice none 0 0, .slice none 0 0, .slice none 0 0, .slice none 0 0, .slice none 0 0, .slice none 0 0, .slice none 0 0, .slice none 0 0, .slice none 0 0, .slice none 0 0, .slice none 0 0, .slice none 0 0, .slice none 0 0, .slice none 0 0, .slice none 0 0, .slice none 0 0, .slice none 0 0, .slice none 0 0, .slice none 0 0, .slice none 0 0, .slice none 0 0, .slice none 0 0, .slice none 0 0, .slice none 0 0, .slice none 0 0, .slice none 0 0, .slice none 0 0, .slice none 0 0] : Array Value).size = 32 from rfl)
  rw [show tabC 32 (fun _ => Value.slice none 0 0) = (#[.slice none 0 0, .slice none 0 0, .slice none 0 0, .slice none 0 0, .slice none 0 0, .slice none 0 0, .slice none 0 0, .slice none 0 0, .slice none 0 0, .slice none 0 0, .slice none 0 0, .slice none 0 0, .slice none 0 0, .slice none 0 0, .slice none 0 0, .slice none 0 0, .slice none 0 0, .slice none 0 0, .slice none 0 0, .slice none 0 0, .slice none 0 0, .slice none 0 0, .slice none 0 0, .slice none 0 0, .slice none 0 0, .slice none 0 0, .slice none 0 0, .slice none 0 0, .slice none 0 0, .slice none 0 0, .slice none 0 0, .slice none 0 0] : Array Value) from rfl] at HS
  obtain ⟨w1, hw1⟩ : ∃ w1, w1 = ((w.alloc (.cells #[.slice x.sa x.sp.length x.sc, .slice x.da x.du.length x.dc] 63)).alloc (.cells (#[.slice none 0 0, .slice none 0 0, .slice none 0 0, .slice none 0 0, .slice none 0 0, .slice none 0 0, .slice none 0 0, .slice none 0 0, .slice none 0 0, .slice none 0 0, .slice none 0 0, .slice none 0 0, .slice none 0 0, .slice none 0 0, .slice none 0 0, .slice none 0 0, .slice none 0 0, .slice none 0 0, .slice none 0 0, .slice none 0 0, .slice none 0 0, .slice none 0 0, .slice none 0 0, .slice none 0 0, .slice none 0 0, .slice none 0 0, .slice none 0 0, .slice none 0 0, .slice none 0 0, .slice none 0 0, .slice none 0 0, .slice none 0 0] : Array Value) 102)) := ⟨_, rfl⟩
  rw [← hw1] at HS
  have HX := Lib.hid hx; have HSM := Lib.hid hsm
  have hs1 : w1.heap.size = w.heap.size + 2 := by rw [hw1]; simp
  clear hx hsm
  have HLD := Lib.hid (laid_any w1 x (HX.out.fr HS.out.fr) HSM.out)
  have hla := Lib.hid (show ∀ y, x.g.laidAt = some y → x.g.check = y from fun y h => check_laidAt h)
  go_enter Try.func70, Try.ntmps70
  go_upto_region 1 with fail
  rw [← hw1]
  clear hw1
  have c0 := cell_block HS.out.gb 0
  have c1 := cell_block HS.out.gb 1
  go_wp2_with (first
    | (go_at_call 95; refine HLD.out.mono ?_; rintro e w2 ⟨f, rfl, hf2, hone, hrows⟩
       have HF2 := Lib.hid hf2; have H1 := Lib.hid hone; have HR2 := Lib.hid hrows
       have H1C := Lib.hid (tabC_all hone)
       clear hf2 hone hrows c0 c1)
    | (refine wpList_store_row rfl 102 (.tmp 5) (.tmp 12) rfl w2.heap.size (tabC 32 f) rfl rfl 102 _ (heap_alloc_last w2 _) (portsz f) (by rw [tabC_size]; rfl) H1C.out ?_
       rw [World.setRow_alloc_new]
       have hwh : WH w x f w1.heap.size w2.heap.size (w2.alloc (.cells (tabC 32 f) 102)) :=
         ⟨heap_alloc_new w2 _, by rw [((Fr.refl No w2).alloc _).block _ (by have := HF2.out.size; omega) (fun _ y => y), HF2.out.block _ (by omega) (fun _ y => y)]; exact HS.out.pt.box,
          by rw [((Fr.refl No w2).alloc _).block _ (by have := HF2.out.size; omega) (fun _ y => y), HF2.out.block _ (by omega) (fun _ y => y)]; exact HS.out.gb, (HS.out.fr.trans HF2.out).alloc _, by omega⟩
       have hrr : x.g.laidAt = none → Rows32 (w2.alloc (.cells (tabC 32 f) 102)) w1.heap.size x f := fun e => Rows32.fr (HR2.out e) ((Fr.refl No w2).alloc _) (fun _ _ _ _ y => y)
       have HWH := Lib.hid hwh; have HRR := Lib.hid hrr
       clear hwh hrr HR2
       generalize w2.alloc (.cells (tabC 32 f) 102) = w3 at *
       generalize w2.heap.size = b5 at *))
  have HZC := Lib.hid (portsz f)
  have HSZ := Lib.hid (show (tabC 32 fun _ => Value.slice none 0 0).size = (tabC 32 f).size from by rw [tabC_size, tabC_size])
  cases hlx : x.g.laidAt with
  | some y =>
    obtain ⟨at_, er⟩ := y
    have hck := check_laidAt hlx
    have her := laidAt_ne0 hlx
    have heb : (er == 0) = false := by simpa using her
    have HE := Lib.hid (HWH.out.done H1.out (fun e => absurd (by rw [hck] at e; exact e) her))
    rw [hck] at HE
    have HL := Lib.hid (ports_load (w3.setRow (w.heap.size + 1) (tabC 32 f)) (w.heap.size + 1) f (setRow_heap w3 _ _ _ _ _ HWH.out.bp))
    dsimp only [Option.getD_some]
    clear her hck hlx
    refine wp_loop_rounds 1 ?_; rw [rounds_succ]
    go_wp2_with (first
      | (refine wpList_load_row rfl 102 _ rfl b5 rfl 102 (tabC 32 f) (0, 0) _ HWH.out.p5 Try.underlying102 rfl HZC.out ?_)
      | (refine wpList_store_row rfl 102 _ _ rfl (w.heap.size + 1) (tabC 32 f) rfl rfl 102 _ HWH.out.bp HZC.out HSZ.out H1C.out ?_))
    exact bodyPost_ret (v := .tuple #[.agg (tabC 32 f), .int .i64 at_, .int .i64 er]) ((results_cell3 (p := 2) (u := 3) (v := 4) (ty := 102) (by kernel_rfl) _ _ _ (w.heap.size + 1) (tabC 32 f) rfl HL.out).trans rfl) rfl HE.out
  | none =>
    have hl := (laid_iff x.g).1 hlx
    have HLD2 := Lib.hid hl
    have hn16 : x.sp.length ≤ 16 := by have := hl.ns; rwa [x.st_len] at this
    have HR := Lib.hid (HRR.out hlx)
    have HFW := Lib.hid (fun s hs => Nat.le_trans (ports_few HX.out hl (s := s) hs).2 (by decide : 4 ≤ 64))
    dsimp only [Option.getD_none]
    clear hlx hl HRR
    go_loopw [8] (fun i wr => ∃ k : Nat, k ≤ x.sp.length ∧ i = .int .i64 k ∧ Hid (WH w x f w1.heap.size b5 wr) ∧ Hid (Rows32 wr w1.heap.size x f) ∧ Hid (∀ j, j < k → ¬ x.g.Reach j j)) (fun i _ => x.sp.length - (intOf i).toNat)
    case atStart => exact ⟨0, Nat.zero_le _, rfl, HWH, HR, Lib.hid (fun j hj => absurd hj (by omega))⟩
    case round =>
      obtain ⟨k, hk, rfl, HK, HRK, HOK⟩ := hrel
      clear HWH HR
      have c0 := cell_block HK.out.gb 0
      have c1 := cell_block HK.out.gb 1
      by_cases hlt : k < x.sp.length
      · have hki : (k : Int) < x.sp.length := by omega
        have HRD := Lib.hid (round_any wr x (HX.out.fr HK.out.fr) HLD2.out f (HRK.out.out hn16) HFW.out k hlt)
        cases hrb : x.g.roundB k with
        | true =>
          rw [hrb] at HRD
          have hck := check_cy HLD2.out (i := k) (by rw [x.st_len]; exact hlt) HOK.out ((roundB_iff _ _).1 hrb)
          have HE := Lib.hid (fun (W : World) (h : WH w x f w1.heap.size b5 W) => h.done H1.out (fun e => by rw [hck] at e; cases e))
          rw [hck] at HE
          have HL := Lib.hid (fun (W : World) (h : WH w x f w1.heap.size b5 W) => ports_load (W.setRow (w.heap.size + 1) (tabC 32 f)) (w.heap.size + 1) f (setRow_heap W _ _ _ _ _ h.bp))
          clear hrb hck
          go_wp2_with (first
            | (go_at_call 96; refine HRD.out.mono ?_; rintro e w4 ⟨rfl, hf4⟩; have HK4 := Lib.hid (HK.out.keep hf4); clear hf4)
            | (refine wpList_store_row rfl 102 _ _ rfl (w.heap.size + 1) (tabC 32 f) rfl rfl 102 _ HK4.out.bp HZC.out HSZ.out H1C.out ?_)
            | (refine wpList_load_row rfl 102 _ rfl b5 rfl 102 (tabC 32 f) (0, 0) _ HK4.out.p5 Try.underlying102 rfl HZC.out ?_)
            | (refine wpList_load_row rfl 102 _ rfl b5 rfl 102 (tabC 32 f) (0, 0) _ HK.out.p5 Try.underlying102 rfl HZC.out ?_))
          exact bodyPost_ret (v := .tuple #[.agg (tabC 32 f), .int .i64 k, .int .i64 15]) ((results_cell3 (p := 2) (u := 3) (v := 4) (ty := 102) (by kernel_rfl) _ _ _ (w.heap.size + 1) (tabC 32 f) rfl (HL.out _ HK4.out)).trans rfl) rfl (HE.out _ HK4.out)
        | false =>
          rw [hrb] at HRD
          have hnr := Lib.hid (show ¬ x.g.Reach k k from fun h => by rw [(roundB_iff x.g k).2 h] at hrb; cases hrb)
          clear hrb
          go_wp2_with (first
            | (go_at_call 96; refine HRD.out.mono ?_; rintro e w4 ⟨rfl, hf4⟩; have HK4 := Lib.hid (HK.out.keep hf4); have HR4 := Lib.hid (HRK.out.fr hf4 (fun _ _ _ _ y => y)); clear hf4)
            | (refine wpList_load_row rfl 102 _ rfl b5 rfl 102 (tabC 32 f) (0, 0) _ HK.out.p5 Try.underlying102 rfl HZC.out ?_))
          go_roundw
          case rel => exact ⟨k + 1, by omega, by go_num, HK4, HR4, Lib.hid fun j hj => (by
            by_cases e : j = k
            · subst e; exact hnr.out
            · exact HOK.out j (by omega))⟩
          case measure => simp [intOf]; omega
      · obtain rfl : k = x.sp.length := by omega
        have hck := check_whole (g := x.g) ⟨HLD2.out, fun i hi => HOK.out i (by rwa [x.st_len] at hi)⟩
        have HE := Lib.hid (HK.out.done H1.out (fun _ => HRK.out))
        rw [hck] at HE
        have HL := Lib.hid (ports_load (wr.setRow (w.heap.size + 1) (tabC 32 f)) (w.heap.size + 1) f (setRow_heap wr _ _ _ _ _ HK.out.bp))
        clear hck
        go_wp2_with (first
          | (refine wpList_load_row rfl 102 _ rfl b5 rfl 102 (tabC 32 f) (0, 0) _ HK.out.p5 Try.underlying102 rfl HZC.out ?_)
          | (refine wpList_store_row rfl 102 _ _ rfl (w.heap.size + 1) (tabC 32 f) rfl rfl 102 _ HK.out.bp HZC.out HSZ.out H1C.out ?_))
        exact bodyPost_ret (v := .tuple #[.agg (tabC 32 f), .int .i64 0, .int .i64 0]) ((results_cell3 (p := 2) (u := 3) (v := 4) (ty := 102) (by kernel_rfl) _ _ _ (w.heap.size + 1) (tabC 32 f) rfl HL.out).trans rfl) rfl HE.out
def CheckPost (w : World) (x : Gv) (e : Ending) (w' : World) : Prop := e = .returned (.tuple #[.int .i64 x.g.check.1, .int .i64 x.g.check.2]) ∧ Fr No w w'
set_option maxHeartbeats 1000000 in
set_option maxRecDepth 100000 in
theorem check_graph (w : World) (x : Gv) (hx : x.Ok w) (hsm : Sml x) : Calls Try.prog 44 #[.agg #[.slice x.sa x.sp.length x.sc, .slice x.da x.du.length x.dc]] w (CheckPost w x) := by
  have HW := Lib.hid (whole_any (w.alloc (.cells #[.slice x.sa x.sp.length x.sc, .slice x.da x.du.length x.dc] 63)) x (hx.fr ((Fr.refl No w).alloc _)) hsm)
  have HK := Lib.hid ((Fr.refl No w).alloc (.cells #[.slice x.sa x.sp.length x.sc, .slice x.da x.du.length x.dc] 63))
  clear hx hsm
  unfold WholePost at HW
  unfold CheckPost
  generalize x.g.check = ck at *
  go_enter Try.func44, Try.ntmps44
  go_wp2_with (first
    | (go_at_call 70; refine HW.out.mono ?_; rintro e w2 ⟨f, rfl, hf2, hone, -⟩
       have HF2 := Lib.hid hf2; have H1C := Lib.hid (tabC_all hone)
       clear hf2 hone)
    | (refine wpList_store_row rfl 102 (.tmp 4) (.tmp 10) rfl w2.heap.size (tabC 32 f) rfl rfl 102 _ (heap_alloc_last w2 _) (portsz f) (by rw [tabC_size]; rfl) H1C.out ?_
       rw [World.setRow_alloc_new]))
  go_ret2
  exact ⟨rfl, (HK.out.trans HF2.out).alloc _⟩
end Go.Proofs.Ytljldkknopmfhaa
