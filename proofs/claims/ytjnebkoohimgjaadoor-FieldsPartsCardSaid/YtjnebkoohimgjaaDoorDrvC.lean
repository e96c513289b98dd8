/- Drive: what it finds is what is found in plain words. -/
import Derived.Test.YtjnebkoohimgjaaDoorDrv
import Derived.Test.YtjnebkoohimgjaaDoorBytes
import Derived.Deep.RegionHeld3
import Derived.Deep.DeepCutAuto
namespace Go.Proofs.YtjnebkoohimgjaaDoor
open Go.RowKit

def DrivePost {σ : Type} (R : World → (Nat → Prop) → σ → Prop) (F : Nat → Prop) (d : Drv σ) (w : World) (e : Ending) (w' : World) : Prop :=
  ∃ F', e = .returned (.agg (gotC d.out d.need d.err d.held d.taken)) ∧ R w' F' d.m ∧ Fr (InF F) w w' ∧ ∀ b, F' b → F b ∨ w.heap.size ≤ b
/-- The cells of a stream. -/
def strmC (ba : Option Addr) (b : List UInt8) (bc : Nat) (ended : Bool) (ec es ei : Int) : List Value := [.slice ba b.length bc, .bool ended, .int .i64 ec, .int .i64 es, .int .i64 ei]


theorem driveF_next {σ : Type} {M : Mod σ} {b : List UInt8} {ended : Bool} {cuts : List Int} {n : Nat} {d d' : Drv σ} (hn : n < 100000) (h : drive1 M b ended cuts n d = some d') :
    driveF M b ended cuts (100000 - n) n d = driveF M b ended cuts (100000 - (n + 1)) (n + 1) d' := by
  obtain ⟨k, hk⟩ : ∃ k, 100000 - n = k + 1 := ⟨100000 - n - 1, by omega⟩
  rw [hk, driveF, h]
  rw [show 100000 - (n + 1) = k from by omega]
theorem run_slice_both {P : Program} (w : World) (t e : TypeId) (a : Option Addr) (n cap lo hi : Nat) (i : TypeInfo) (ht : P.underlying t = some (.slice e)) (hi' : P.info? e = some i) (h : hi ≤ cap) (hlo : lo ≤ hi) :
    (Instr.slice t (.slice a n cap) (some (.int .i64 lo)) (some (.int .i64 hi)) none).run P w = .ok (.slice (subA a cap lo i.size) (hi - lo) (cap - lo)) w := by
  have h1 : (hi : Int) ≤ cap := by omega
  have h2 : (lo : Int) ≤ hi := by omega
  simp [Instr.slice, run_underlying ht, Instr.sliceBounds, run_sliceBound, sizeOf, typeInfo, hi', subA, h1, h2]
theorem own_empty_at' (w : World) (e : TypeId) (size g : Nat) (hg : g = w.heap.size) : OwnSl (w.alloc (.cells #[] e)) e size (.slice (some ⟨g, 0, none⟩) 0 0) 0 [] := by
  subst hg; exact own_empty w e size
theorem chunk_at {W : World} {ba : Option Addr} {bc : Nat} {b : List UInt8} (h : At W ba (b.map bv)) (hbc : b.length ≤ bc) (cuts : List Int) (n taken : Nat) : At W (subA ba bc taken 1) ((chunkOf b cuts n taken).map bv) := by
  have := (h.sub (cap := bc) (lo := taken) (by simpa using hbc)).take (cutN cuts n)
  unfold chunkOf
  rw [List.map_take, List.map_drop]; exact this
/-- How Drive stands ahead of its n-th round. -/
structure DInv {σ : Type} (M : Mod σ) (R : World → (Nat → Prop) → σ → Prop) (F : Nat → Prop) (b : List UInt8) (ended : Bool) (cuts : List Int) (s : σ) (w : World) (gb n : Nat) (d : Drv σ) (F' : Nat → Prop) (wr : World) : Prop where
  le : n ≤ 100000
  eq : driveF M b ended cuts (100000 - n) n d = drive M b ended cuts s
  R : R wr F' d.m
  fresh : ∀ x, F' x → x ≠ w.heap.size ∧ x ≠ gb ∧ x ≠ gb + 1 ∧ (F x ∨ w.heap.size ≤ x)
  need : d.need = M.need d.m
  taken : d.taken ≤ b.length
  out : d.out.length ≤ 1024 * n
  held : 0 ≤ d.held ∧ d.held ≤ 1000000
  got : wr.heap[gb]? = some (.cells (gotC d.out d.need d.err d.held d.taken) 45 (0, 0))
  tld : wr.heap[gb + 1]? = some (.cells #[.bool d.told, .bool false, .bool false, .bool false] 84 (0, 0))
  res : wr.heap[w.heap.size]? = some (.cells (gotC [] 0 0 0 0) 45 (0, 0))
  fr : Fr (InF F) w wr
  lt : w.heap.size < gb
theorem got_cells {W : World} {gb : Nat} {out : List UInt8} {need err held taken : Int} (h : W.heap[gb]? = some (.cells (gotC out need err held taken) 45 (0, 0))) :
    W.cell? ⟨gb, 0, none⟩ = some (sv out) ∧ W.cell? ⟨gb, 1, none⟩ = some (sv []) ∧ W.cell? ⟨gb, 2, none⟩ = some (sv []) ∧ W.cell? ⟨gb, 3, none⟩ = some (sv []) ∧ W.cell? ⟨gb, 4, none⟩ = some (.int .i64 need) ∧ W.cell? ⟨gb, 5, none⟩ = some (.int .i64 err) ∧
    W.cell? ⟨gb, 6, none⟩ = some (.int .i64 held) ∧ W.cell? ⟨gb, 7, none⟩ = some (.int .i64 taken) ∧ W.cell? ⟨gb, 8, none⟩ = some (.int .i64 0) ∧ W.cell? ⟨gb, 9, none⟩ = some (.int .i64 0) ∧ W.cell? ⟨gb, 10, none⟩ = some (.int .i64 0) ∧ W.cell? ⟨gb, 11, none⟩ = some (.bool false) ∧
    ∀ i, W.frozen? ⟨gb, i, none⟩ = false := by
  have c := cell_block h
  exact ⟨c 0, c 1, c 2, c 3, c 4, c 5, c 6, c 7, c 8, c 9, c 10, c 11, fun i => by simp [World.frozen?, h]⟩
theorem got_load (W : World) (g : Nat) (cs : Array Value) (hg : W.heap[g]? = some (.cells cs 45 (0, 0))) (hs : cs.size = 12) : (loadVar 45 ⟨g, 0, none⟩).run Tryd.prog W = .ok (.agg cs) W :=
  run_loadVar_row W g 45 45 cs (0, 0) _ hg Tryd.underlying45 rfl (by rw [hs]; kernel_rfl)

theorem dinv_next {σ : Type} {M : Mod σ} {R : World → (Nat → Prop) → σ → Prop} {F : Nat → Prop} {b : List UInt8} {ended : Bool} {cuts : List Int} {s : σ} {w wr W : World} {gb n : Nat} {d d1 : Drv σ} {F' F2 : Nat → Prop}
    (hD : DInv M R F b ended cuts s w gb n d F' wr) (hn : n < 100000) (h1 : drive1 M b ended cuts n d = some d1) (hR : R W F2 d1.m) (hF : ∀ x, F2 x → F' x ∨ wr.heap.size ≤ x) (hneed : d1.need = M.need d1.m) (ht : d1.taken ≤ b.length)
    (ho : d1.out.length ≤ d.out.length + 1024) (hh : 0 ≤ d1.held ∧ d1.held ≤ 1000000) (hg : W.heap[gb]? = some (.cells (gotC d1.out d1.need d1.err d1.held d1.taken) 45 (0, 0)))
    (htl : W.heap[gb + 1]? = some (.cells #[.bool d1.told, .bool false, .bool false, .bool false] 84 (0, 0))) (hfr : Fr (fun x _ => F' x ∨ x = gb ∨ x = gb + 1) wr W) : DInv M R F b ended cuts s w gb (n + 1) d1 F2 W := by
  have hl := (Array.getElem?_eq_some_iff.1 hD.tld).1
  have h0 := hD.lt
  refine ⟨by omega, ?_, hR, fun x hx => ?_, hneed, ht, ?_, hh, hg, htl, ?_, ?_, h0⟩
  · rw [← driveF_next hn h1]; exact hD.eq
  · rcases hF x hx with h | h
    · exact hD.fresh x h
    · exact ⟨by omega, by omega, by omega, .inr (by omega)⟩
  · have := hD.out; omega
  · rw [hfr.block w.heap.size (by omega) (fun _ h => by rcases h with h | h | h; exact (hD.fresh _ h).1 rfl; omega; omega)]; exact hD.res
  · refine hD.fr.step hfr (fun i o hi h => ?_)
    rcases h with h | h | h
    · rcases (hD.fresh i h).2.2.2 with h | h
      · exact h
      · omega
    · omega
    · omega

set_option maxHeartbeats 8000000 in
set_option maxRecDepth 100000 in
theorem drive_any {σ : Type} {M : Mod σ} {m : Meth} {R : World → (Nat → Prop) → σ → Prop} (hM : Mach M m R) (ig ioff ic : Nat) (ba : Option Addr) (bc : Nat) (b : List UInt8) (ended : Bool) (ec es ei : Int) (ca : Option Addr) (cc : Nat) (cuts : List Int) (s : σ) (F : Nat → Prop) (w : World)
    (hR : R w F s) (hi : Row w ig ioff (strmC ba b bc ended ec es ei)) (hiF : ¬ F ig) (hb : At w ba (b.map bv)) (hbF : 0 < b.length → ∀ g off, ba = some ⟨g, off, none⟩ → ¬ F g) (hbl : b.length ≤ 90000) (hbc : b.length ≤ bc)
    (hc : At w ca (cuts.map iv)) (hcF : 0 < cuts.length → ∀ g off, ca = some ⟨g, off, none⟩ → ¬ F g) (hcl : cuts.length ≤ 100000) :
    Calls Tryd.prog 14 #[.iface m.U m.x, .slice (some ⟨ig, ioff, none⟩) 1 ic, .slice ca cuts.length cc] w (DrivePost R F (drive M b ended cuts s) w) := by
  have HM := Lib.hid hM; clear hM
  have hmN := HM.out.ok.mN
  have hcN := HM.out.ok.cN
  have HR := Lib.hid hR; clear hR
  have HI := Lib.hid hi; clear hi
  have HB := Lib.hid hb; clear hb
  have HC := Lib.hid hc; clear hc
  have HSZ : Hid ((Tryd.prog.info? 45).map (·.size) = some 12) := Lib.hid (by kernel_rfl)
  have R0 : ∀ o, R (w.alloc o) F s := fun o => HM.out.fr HR.out ((Fr.refl No w).alloc o) (fun _ _ _ x => x) (fun _ _ _ x => x)
  have NB0 : Hid (∀ b, b < m.B → b ≠ w.heap.size) := Lib.hid (fun b hb e => by have := HM.out.base HR.out; omega)
  have F0 : ¬ F w.heap.size := fun h => by have := HM.out.lt HR.out _ h; omega
  go_enter Tryd.func14, Tryd.ntmps14
  go_wp2_with (first | (refine (HM.out.need (R0 _)).mono ?_; rintro e1 w1 ⟨rfl, hR1, hfr1⟩))
  have hs1 := hfr1.size
  simp at hs1
  have start : DInv M R F b ended cuts s w w1.heap.size 0 ⟨s, [], M.need s, 0, 0, 0, false⟩ F ((w1.alloc (.cells (gotC [] (M.need s) 0 0 0) 45)).alloc (.cells #[.bool false, .bool false, .bool false, .bool false] 84)) := by
    have L := HM.out.lt HR.out
    refine ⟨by omega, rfl, HM.out.fr hR1 (((Fr.refl No w1).alloc _).alloc _) (fun _ _ _ x => x) (fun _ _ _ x => x), fun x hx => ?_, rfl, Nat.zero_le _, by simp, ⟨by simp, by simp⟩, ?_, ?_, ?_, ?_, by omega⟩
    · have := L x hx
      exact ⟨by omega, by omega, by omega, .inl hx⟩
    · rw [heap_alloc_old (h := by simp)]; exact heap_alloc_new _ _
    · rw [show w1.heap.size + 1 = (w1.alloc (.cells (gotC [] (M.need s) 0 0 0) 45)).heap.size from by simp]; exact heap_alloc_new _ _
    · rw [heap_alloc_old (h := by simp; omega), heap_alloc_old (h := by omega), hfr1.block w.heap.size (by simp) (fun _ h => F0 h)]; exact heap_alloc_new _ _
    · exact ((((Fr.refl _ w).alloc _).trans hfr1).alloc _).alloc _
  have START := Lib.hid start
  have F0' := Lib.hid F0
  clear start hR1 hfr1 F0 HR R0
  generalize w1.heap.size = gb at *
  go_loopw [9] (fun i wr => ∃ (n : Nat) (d : Drv σ) (F' : Nat → Prop), i = .int .i64 n ∧ n ≤ 100000 ∧ Hid (DInv M R F b ended cuts s w gb n d F' wr)) (fun i _ => 100000 - (intOf i).toNat)
  case atStart => exact ⟨0, _, _, rfl, by omega, START⟩
  case round =>
    obtain ⟨n, d, F', rfl, hn, HD⟩ := hrel
    clear START
    have hb0 : w.heap.size < gb := HD.out.lt
    have NB : Hid (∀ b, b < m.B → b ≠ gb) := Lib.hid (fun b hb e => by have := NB0.out w.heap.size; omega)
    have NB1 : Hid (∀ b, b < m.B → b ≠ gb + 1) := Lib.hid (fun b hb e => by have := NB0.out w.heap.size; omega)
    obtain ⟨g0, g1, g2, g3, g4, g5, g6, g7, g8, g9, g10, g11, gz⟩ := got_cells HD.out.got
    have hgl : gb + 1 < wr.heap.size := (Array.getElem?_eq_some_iff.1 HD.out.tld).1
    have hgl0 : gb < wr.heap.size := by omega
    have HSTOP : Hid (drive1 M b ended cuts n d = none ∨ n = 100000 → drive M b ended cuts s = d) := Lib.hid (fun h => by
      rw [← HD.out.eq]
      rcases h with h | h
      · exact driveF_stop h
      · subst h; rfl)
    have FIN : Hid (∀ W, W = wr.setRow w.heap.size (gotC d.out d.need d.err d.held d.taken) → drive M b ended cuts s = d → DrivePost R F (drive M b ended cuts s) w (.returned (.agg (gotC d.out d.need d.err d.held d.taken))) W) := Lib.hid (by
      rintro W rfl hd
      rw [hd]
      refine ⟨F', rfl, HM.out.fr HD.out.R ((Fr.refl (fun b _ => b = w.heap.size) wr).setRow _ _ (fun _ _ => rfl)) (fun x o hx e => (HD.out.fresh x hx).1 e) (fun x _ hx e => NB0.out x hx e), HD.out.fr.setRow _ _ (fun o h => by omega), fun x hx => (HD.out.fresh x hx).2.2.2⟩)
    by_cases h100 : n = 100000
    · subst h100
      go_wp2_with (first | (refine wpList_store_row rfl 45 (.tmp 6) (.tmp 147) rfl w.heap.size (gotC d.out d.need d.err d.held d.taken) rfl rfl 45 (gotC [] 0 0 0 0) HD.out.res HSZ.out rfl (by simp [gotC, Value.oneCell']) ?_))
      refine bodyPost_ret (results_cell_row (p := 6) (ty := 45) (by kernel_rfl) _ _ w.heap.size 45 (gotC d.out d.need d.err d.held d.taken) (0, 0) _ rfl (setRow_heap _ w.heap.size _ _ 45 _ HD.out.res) Tryd.underlying45 rfl HSZ.out) rfl ?_
      exact FIN.out _ rfl (HSTOP.out (.inr trivial))
    have hlt : (n : Int) < 100000 := by omega
    by_cases he : d.err = 0
    rotate_left
    · have he1 : (d.err == 0) = false := by simpa using he
      have HE := Lib.hid he; clear he
      go_wp2_with (first | (refine wpList_store_row rfl 45 (.tmp 6) (.tmp 147) rfl w.heap.size (gotC d.out d.need d.err d.held d.taken) rfl rfl 45 (gotC [] 0 0 0 0) HD.out.res HSZ.out rfl (by simp [gotC, Value.oneCell']) ?_))
      refine bodyPost_ret (results_cell_row (p := 6) (ty := 45) (by kernel_rfl) _ _ w.heap.size 45 (gotC d.out d.need d.err d.held d.taken) (0, 0) _ rfl (setRow_heap _ w.heap.size _ _ 45 _ HD.out.res) Tryd.underlying45 rfl HSZ.out) rfl ?_
      exact FIN.out _ rfl (HSTOP.out (.inl (by unfold drive1; rw [if_pos (.inl HE.out)])))
    have he1 : (d.err == 0) = true := by simpa using he
    have HE := Lib.hid he; clear he
    have hneed3 := HM.out.need3 HD.out.R
    rw [← HD.out.need] at hneed3
    by_cases hm1 : d.need = -1
    · have hm2 : (d.need != -1) = false := by simp [hm1]
      have HM1 := Lib.hid hm1; clear hm1 hneed3
      go_wp2_with (first | (refine wpList_store_row rfl 45 (.tmp 6) (.tmp 147) rfl w.heap.size (gotC d.out d.need d.err d.held d.taken) rfl rfl 45 (gotC [] 0 0 0 0) HD.out.res HSZ.out rfl (by simp [gotC, Value.oneCell']) ?_))
      refine bodyPost_ret (results_cell_row (p := 6) (ty := 45) (by kernel_rfl) _ _ w.heap.size 45 (gotC d.out d.need d.err d.held d.taken) (0, 0) _ rfl (setRow_heap _ w.heap.size _ _ 45 _ HD.out.res) Tryd.underlying45 rfl HSZ.out) rfl ?_
      exact FIN.out _ rfl (HSTOP.out (.inl (by unfold drive1; rw [if_pos (.inr HM1.out)])))
    have hm2 : (d.need != -1) = true := by simpa using hm1
    have FR := Lib.hid HD.out.fresh
    have hmH := HM.out.ok.mH
    have hcH := HM.out.ok.cH
    by_cases hmore : d.need = -2
    · have hmM := HM.out.ok.mM
      have hcM := HM.out.ok.cM
      have hk1 : (d.need == -2) = true := by simp [hmore]
      have H1 : Hid (drive1 M b ended cuts n d = some (d.took M (M.more d.m))) := Lib.hid (by
        unfold drive1; rw [if_neg (by rw [HE.out, hmore]; simp), if_pos hmore])
      have hans := HM.out.more HD.out.R (by rw [← HD.out.need]; exact hmore)
      have HMORE := Lib.hid hmore; clear hmore hm1 hneed3
      generalize M.more d.m = r at *
      have HANS := Lib.hid hans; clear hans
      have G1 := Lib.hid HD.out.got
      have TL1 := Lib.hid HD.out.tld
      have FF2 : Hid (Fr (fun x _ => F' x ∨ x = gb ∨ x = gb + 1) wr wr) := Lib.hid (Fr.refl _ _)
      go_wp2_with (first
        | (refine HANS.out.mono ?_; rintro e2 w2 ⟨oa, ps, oc, F2, rfl, hbo, hok, hout, hR2, hfr2, hF2'⟩;
            have hF2 : ∀ x, F2 x → F' x ∨ wr.heap.size ≤ x := (fun x hx => by rcases hF2' x hx with h | h; exact .inl h; (have := FF2.out.size; exact .inr (by omega)));
            have HO2 := Lib.hid hout; have HR2 := Lib.hid hR2; have FT2 : Hid (Fr (fun x _ => F' x ∨ x = gb ∨ x = gb + 1) wr w2) := Lib.hid (FF2.out.step hfr2 (fun x _ _ h => .inl h)); have HF2 := Lib.hid hF2;
            have hne2 : ¬ F2 gb ∧ ¬ F2 (gb + 1) ∧ ¬ F2 w.heap.size := (by
              refine ⟨fun h => ?_, fun h => ?_, fun h => ?_⟩ <;> (rcases HF2.out _ h with h | h; (have := FR.out _ h; omega); omega));
            have got2 := (hfr2.block gb (Array.getElem?_eq_some_iff.1 G1.out).1 (fun _ h => (FR.out _ h).2.1 rfl)).trans G1.out;
            have TLD2 := Lib.hid ((hfr2.block (gb + 1) (Array.getElem?_eq_some_iff.1 TL1.out).1 (fun _ h => (FR.out _ h).2.2.1 rfl)).trans TL1.out);
            clear hout hR2 hfr2 hF2 hF2')
        | (go_at_call 28; refine (put_any gb _ d.out d.need d.err d.held d.taken _ oa ps oc _ got2 (Array.getElem?_eq_some_iff.1 G1.out).1 HO2.out (by rw [hbo]; exact hok) (by have := HD.out.out; omega)).mono ?_; rintro e3 w3 ⟨rfl, got3, hfr3⟩))
      have KS := Lib.hid (fun (W : World) (h : Fr (InF F2) w3 W) => (show W.cell? ⟨gb, 6, none⟩ = some (.int .i64 d.held) ∧ W.frozen? ⟨gb, 6, none⟩ = false from by
        have := got_cells ((h.block gb (Array.getElem?_eq_some_iff.1 got3).1 (fun _ x => hne2.1 x)).trans got3)
        exact ⟨this.2.2.2.2.2.2.1, this.2.2.2.2.2.2.2.2.2.2.2.2 6⟩))
      have R3 := Lib.hid (fun (W : World) (h : Fr No w3 W) => HM.out.fr (HM.out.fr HR2.out hfr3 (fun b o hb e => hne2.1 (e ▸ hb)) (fun b _ hb e => NB.out b hb e)) h (fun _ _ _ x => x) (fun _ _ _ x => x))
      have k3 := KS.out _ (Fr.refl _ _).drew
      have HB3 := Lib.hid (HM.out.heldB (R3.out _ (Fr.refl _ _).drew))
      have T3 := Lib.hid hfr3
      have G3 := Lib.hid got3
      have TL3 := Lib.hid ((hfr3.block (gb + 1) (Array.getElem?_eq_some_iff.1 TLD2.out).1 (fun _ h => by omega)).trans TLD2.out)
      clear hfr3 got3
      go_region_with (first | (refine (HM.out.held (R3.out _ (Fr.refl _ _).drew)).mono ?_; rintro e4 w4 ⟨rfl, hR4, g1⟩; have k4 := KS.out _ ((Fr.refl _ _).drew.trans g1)))
      all_goals
        have ex : (if d.held < M.held r.1 then M.held r.1 else d.held) = max d.held (M.held r.1) := by rw [Int.max_def]; split <;> split <;> omega
        rw [ex]
        clear ex
        have g1' := Lib.hid g1
        have got4 := (g1.block gb (by simp; exact (Array.getElem?_eq_some_iff.1 G3.out).1) (fun _ h => hne2.1 h)).trans G3.out
        have got5 : (w4.setCell ⟨gb, 6, none⟩ (.int .i64 (max d.held (M.held r.1)))).heap[gb]? = some (.cells (gotC (d.out ++ (bytesOf ps).flatten) d.need r.2.2 (max d.held (M.held r.1)) d.taken) 45 (0, 0)) := (heap_setCell_same w4 gb 6 _ _ _ got4).trans (by simp [gotC])
        have R5 := HM.out.fr hR4 ((Fr.refl (fun b _ => b = gb) w4).setCell (b := gb) (o := 6) (fun _ => rfl) (.int .i64 (max d.held (M.held r.1)))) (fun b o hb e => hne2.1 (e ▸ hb)) (fun b _ hb e => NB.out b hb e)
        have G5 := Lib.hid got5
        have R5' := Lib.hid R5
        clear got4 got5 R5 hR4 g1 k4
        generalize hhd : max d.held (M.held r.1) = hd at *
        have HHD := Lib.hid hhd; clear hhd
        go_wp2_with (first
          | (refine (HM.out.need R5'.out).mono ?_; rintro e6 w6 ⟨rfl, hR6, g2⟩
             have got6 := (g2.block gb (Array.getElem?_eq_some_iff.1 G5.out).1 (fun _ h => hne2.1 h)).trans G5.out
             have c4 : w6.cell? ⟨gb, 4, none⟩ = some (.int .i64 d.need) := (by rw [cell_block got6]; rfl)
             have z4 : w6.frozen? ⟨gb, 4, none⟩ = false := (by simp [World.frozen?, got6])
             have G6 := Lib.hid got6; have R6 := Lib.hid hR6; have g2' := Lib.hid g2; clear got6 hR6 g2))
        go_roundw
        case rel =>
          have fw : Fr (fun x _ => F' x ∨ x = gb ∨ x = gb + 1) wr (w6.setCell ⟨gb, 4, none⟩ (.int .i64 (M.need r.1))) :=
            (((((FT2.out).step T3.out (fun x _ _ h => .inr (.inl h))).drew.step g1'.out (fun x _ hx h => by rcases HF2.out x h with h | h; exact .inl h; omega)).setCell (fun _ => .inr (.inl rfl)) _).step g2'.out (fun x _ hx h => by rcases HF2.out x h with h | h; exact .inl h; omega)).setCell (fun _ => .inr (.inl rfl)) _
          have fo : Fr (fun x _ => F2 x ∨ x = gb) w3 (w6.setCell ⟨gb, 4, none⟩ (.int .i64 (M.need r.1))) :=
            (((((Fr.refl _ w3).drew.step g1'.out (fun x _ hx h => .inl h)).setCell (fun _ => .inr rfl) _).step g2'.out (fun x _ hx h => .inl h)).setCell (fun _ => .inr rfl) _)
          refine ⟨n + 1, d.took M r, F2, by go_num, by omega, Lib.hid (dinv_next HD.out (by omega) H1.out ?_ HF2.out rfl (HD.out.taken) ?_ ?_ ?_ ?_ fw)⟩
          · exact HM.out.fr R6.out ((Fr.refl (fun b _ => b = gb) w6).setCell (fun _ => rfl) _) (fun b o hb e => hne2.1 (e ▸ hb)) (fun b _ hb e => NB.out b hb e)
          · have := hok.2; show (d.out ++ r.2.1.flatten).length ≤ _; rw [List.length_append]; omega
          · have h1 := HD.out.held; have h2 := HB3.out; show 0 ≤ max d.held (M.held r.1) ∧ max d.held (M.held r.1) ≤ 1000000; omega
          · refine (heap_setCell_same w6 gb 4 _ _ _ G6.out).trans ?_
            rw [hbo, ← HHD.out]
            simp [gotC, Drv.took]
          · rw [fo.block (gb + 1) (Array.getElem?_eq_some_iff.1 TL3.out).1 (fun _ h => by rcases h with h | h; exact hne2.2.1 h; omega)]; exact TL3.out
        case measure => simp [intOf]; omega
    have hz : d.need = 0 := by omega
    clear hneed3 hm1 hmore hm2
    have hrow := HI.out.fr HD.out.fr (fun i _ h => hiF h)
    have i0 : wr.cell? ⟨ig, ioff, none⟩ = some (.slice ba b.length bc) := hrow.get 0 _ rfl
    have i1 : wr.cell? ⟨ig, ioff + 1, none⟩ = some (.bool ended) := hrow.get 1 _ rfl
    clear hrow
    by_cases htk : d.taken < b.length
    · have htki : (d.taken : Int) < b.length := by omega
      have hcp := cutN_pos cuts n
      have hca := HC.out.fr HD.out.fr (fun g off e hl i hi h => hcF (by simp at hi; omega) g off e h)
      go_wp2_with fail
      have k7 : wr.drew.cell? ⟨gb, 7, none⟩ = some (.int .i64 d.taken) := g7
      go_region_held3 (fun W => W.cell? ⟨gb, 7, none⟩ = some (.int .i64 d.taken)) (exact k7)
        (first | (go_at_call 29; refine (dcut_any ca cuts cc n _ (hca.fr (Fr.refl No wr).drew (fun _ _ _ _ _ _ x => x)) (by omega) hcl).mono ?_; rintro e2 w2 ⟨rfl, rfl⟩))
      have hcl' : (chunkOf b cuts n d.taken).length = min (cutN cuts n) (b.length - d.taken) := by simp [chunkOf]
      have hw : IntKind.i64.wrap ((d.taken : Int) + cutN cuts n) = d.taken + cutN cuts n := by rw [IntKind.wrap_i64]; omega
      obtain ⟨T, hT⟩ : ∃ T, T = d.taken + (chunkOf b cuts n d.taken).length := ⟨_, rfl⟩
      have ew : (if IntKind.i64.wrap ((d.taken : Int) + cutN cuts n) < b.length then IntKind.i64.wrap ((d.taken : Int) + cutN cuts n) else (b.length : Int)) = (T : Int) := by rw [hw]; split <;> omega
      rw [ew]
      have H1 : Hid (drive1 M b ended cuts n d = some { (d.took M (M.feed d.m (chunkOf b cuts n d.taken))) with taken := T }) := Lib.hid (by
        rw [hT]; unfold drive1; rw [if_neg (by rw [HE.out, hz]; simp), if_neg (by rw [hz]; simp), if_pos htk])
      have hcb := fun (W : World) (hW : Fr No wr W) => chunk_at ((HB.out.fr HD.out.fr (fun g off e hl i hi h => hbF (by simp at hi; omega) g off e h)).fr hW (fun _ _ _ _ _ _ x => x)) hbc cuts n d.taken
      have HFEED := Lib.hid (fun (W : World) (hRW : R W F' d.m) (a : Option Addr) (cap : Nat) (h1 : At W a ((chunkOf b cuts n d.taken).map bv)) (h2 : ∀ g off, a = some ⟨g, off, none⟩ → ¬ F' g) =>
        HM.out.feed hRW (by rw [← HD.out.need]; exact hz) a (chunkOf b cuts n d.taken) cap h1 h2 (by omega) (by omega))
      have htb : T ≤ b.length := by omega
      have hc32 : 1 ≤ (chunkOf b cuts n d.taken).length ∧ (chunkOf b cuts n d.taken).length ≤ 32 := by omega
      clear ew hw hcl' hcp
      generalize chunkOf b cuts n d.taken = c at *
      have HT := Lib.hid hT; clear hT
      generalize M.feed d.m c = r at *
      have HCB := Lib.hid hcb; clear hcb hca
      obtain ⟨j0, hj, jz0, jz1, jz2⟩ := info_parts Tryd.info5
      have hsl : ∀ W : World, (Instr.slice 22 (.slice ba b.length bc) (some (.int .i64 d.taken)) (some (.int .i64 T)) none).run Tryd.prog W = .ok (.slice (subA ba bc d.taken 1) c.length (bc - d.taken)) W := fun W => by
        have hT := HT.out
        have := run_slice_both W 22 5 ba b.length bc d.taken T j0 Tryd.underlying22 hj (by omega) (by omega)
        rwa [jz1, show T - d.taken = c.length from by omega] at this
      have k7a : (wr.drew.alloc (.cells #[] 5)).cell? ⟨gb, 7, none⟩ = some (.int .i64 d.taken) := ((Fr.refl No wr.drew).alloc _).cell gb 7 hgl0 (fun x => x) |>.trans g7
      have hmF := HM.out.ok.mF
      have hcF' := HM.out.ok.cF
      go_upto_region 19 with fail
      iterate 25 (first | go_values | go_skip | go_guarded | go_step | go_upon)
      refine wpList_append_sl rfl (.tmp 93) (.tmp 100) 22 22 rfl 5 j0 (.int .u8 0) 1 1 Tryd.underlying22 hj jz0 jz1 jz2 rfl (by decide) (.slice (some ⟨wr.heap.size, 0, none⟩) 0 0) 0 [] rfl (own_empty_at' _ 5 1 _ (by simp)) _ c.length (c.map bv) rfl (src_slice Tryd.underlying22 (by simp) (HCB.out _ ((Fr.refl No wr).drew.alloc _)) (by simp [Value.oneCell'])) (by omega) (by omega) ?_
      intro v1 w1' hown1 hfr1 hblk1
      rw [Nat.zero_add, List.nil_append] at hown1
      obtain ⟨a1, c1, hv1, hat1, _⟩ := hown1.at
      subst hv1
      have hnew : ∀ g off, a1 = some ⟨g, off, none⟩ → wr.heap.size ≤ g := (fun g off e => by
        rcases hblk1 with h | h
        · rw [e] at h; have h' : some g = some wr.heap.size := h; injection h' with h'; omega
        · rw [e] at h; have h' : some g = some _ := h; injection h' with h'; simp at h'; omega)
      have ff1 : Fr No wr w1' := (((Fr.refl No wr).drew.alloc _).step hfr1 (fun x o hx h => by have h' : some wr.heap.size = some x := h; injection h' with h'; omega))
      have got1 := (ff1.block gb hgl0 (fun _ h => h)).trans HD.out.got
      have tl1 := (ff1.block (gb + 1) hgl (fun _ h => h)).trans HD.out.tld
      have q7 : w1'.cell? ⟨gb, 7, none⟩ = some (.int .i64 d.taken) := (by rw [cell_block got1]; rfl)
      have y7 : w1'.frozen? ⟨gb, 7, none⟩ = false := (by simp [World.frozen?, got1])
      have got1' : (w1'.setCell ⟨gb, 7, none⟩ (.int .i64 T)).heap[gb]? = some (.cells (gotC d.out d.need d.err d.held T) 45 (0, 0)) := ((heap_setCell_same w1' gb 7 _ _ _ got1).trans (by simp [gotC]))
      have tl1' : (w1'.setCell ⟨gb, 7, none⟩ (.int .i64 T)).heap[gb + 1]? = some (.cells #[.bool d.told, .bool false, .bool false, .bool false] 84 (0, 0)) := ((heap_setCell_other w1' _ _ _ (by simp)).trans tl1)
      have ff2 : Fr (fun x _ => x = gb) wr (w1'.setCell ⟨gb, 7, none⟩ (.int .i64 T)) := Fr.setCell (S := fun x _ => x = gb) (ff1.mono (fun _ _ _ h => h.elim)) (fun _ => rfl) _
      have hans := HFEED.out _ (HM.out.fr HD.out.R ff2 (fun x o hx e => (FR.out x hx).2.1 e) (fun b _ hb e => NB.out b hb e)) a1 c1 (hat1.fr ((Fr.refl (fun x _ => x = gb) w1').setCell (fun _ => rfl) _) (fun g off e hl i _ h => by have := hnew g off e; omega)) (fun g off e h => by have h1 := HM.out.lt HD.out.R g h; have h2 := hnew g off e; omega)
      have HANS := Lib.hid hans
      have G1 := Lib.hid got1'
      have TL1 := Lib.hid tl1'
      have FF2 : Hid (Fr (fun x _ => F' x ∨ x = gb ∨ x = gb + 1) wr _) := Lib.hid (ff2.mono (fun _ _ _ h => .inr (.inl h)))
      clear hans got1 got1' tl1 tl1' hnew hat1 hown1 hfr1 hblk1 ff1 ff2
      go_wp2_with (first
        | (refine HANS.out.mono ?_; rintro e2 w2 ⟨oa, ps, oc, F2, rfl, hbo, hok, hout, hR2, hfr2, hF2'⟩;
            have hF2 : ∀ x, F2 x → F' x ∨ wr.heap.size ≤ x := (fun x hx => by rcases hF2' x hx with h | h; exact .inl h; (have := FF2.out.size; exact .inr (by omega)));
            have HO2 := Lib.hid hout; have HR2 := Lib.hid hR2; have FT2 : Hid (Fr (fun x _ => F' x ∨ x = gb ∨ x = gb + 1) wr w2) := Lib.hid (FF2.out.step hfr2 (fun x _ _ h => .inl h)); have HF2 := Lib.hid hF2;
            have hne2 : ¬ F2 gb ∧ ¬ F2 (gb + 1) ∧ ¬ F2 w.heap.size := (by
              refine ⟨fun h => ?_, fun h => ?_, fun h => ?_⟩ <;> (rcases HF2.out _ h with h | h; (have := FR.out _ h; omega); omega));
            have got2 := (hfr2.block gb (Array.getElem?_eq_some_iff.1 G1.out).1 (fun _ h => (FR.out _ h).2.1 rfl)).trans G1.out;
            have TLD2 := Lib.hid ((hfr2.block (gb + 1) (Array.getElem?_eq_some_iff.1 TL1.out).1 (fun _ h => (FR.out _ h).2.2.1 rfl)).trans TL1.out);
            clear hout hR2 hfr2 hF2 hF2')
        | (go_at_call 28; refine (put_any gb _ d.out d.need d.err d.held T _ oa ps oc _ got2 (Array.getElem?_eq_some_iff.1 G1.out).1 HO2.out (by rw [hbo]; exact hok) (by have := HD.out.out; omega)).mono ?_; rintro e3 w3 ⟨rfl, got3, hfr3⟩))
      have KS := Lib.hid (fun (W : World) (h : Fr (InF F2) w3 W) => (show W.cell? ⟨gb, 6, none⟩ = some (.int .i64 d.held) ∧ W.frozen? ⟨gb, 6, none⟩ = false from by
        have := got_cells ((h.block gb (Array.getElem?_eq_some_iff.1 got3).1 (fun _ x => hne2.1 x)).trans got3)
        exact ⟨this.2.2.2.2.2.2.1, this.2.2.2.2.2.2.2.2.2.2.2.2 6⟩))
      have R3 := Lib.hid (fun (W : World) (h : Fr No w3 W) => HM.out.fr (HM.out.fr HR2.out hfr3 (fun b o hb e => hne2.1 (e ▸ hb)) (fun b _ hb e => NB.out b hb e)) h (fun _ _ _ x => x) (fun _ _ _ x => x))
      have k3 := KS.out _ (Fr.refl _ _).drew
      have HB3 := Lib.hid (HM.out.heldB (R3.out _ (Fr.refl _ _).drew))
      have T3 := Lib.hid hfr3
      have G3 := Lib.hid got3
      have TL3 := Lib.hid ((hfr3.block (gb + 1) (Array.getElem?_eq_some_iff.1 TLD2.out).1 (fun _ h => by omega)).trans TLD2.out)
      clear hfr3 got3
      go_region_with (first | (refine (HM.out.held (R3.out _ (Fr.refl _ _).drew)).mono ?_; rintro e4 w4 ⟨rfl, hR4, g1⟩; have k4 := KS.out _ ((Fr.refl _ _).drew.trans g1)))
      all_goals
        have ex : (if d.held < M.held r.1 then M.held r.1 else d.held) = max d.held (M.held r.1) := by rw [Int.max_def]; split <;> split <;> omega
        rw [ex]
        clear ex
        have g1' := Lib.hid g1
        have got4 := (g1.block gb (by simp; exact (Array.getElem?_eq_some_iff.1 G3.out).1) (fun _ h => hne2.1 h)).trans G3.out
        have got5 : (w4.setCell ⟨gb, 6, none⟩ (.int .i64 (max d.held (M.held r.1)))).heap[gb]? = some (.cells (gotC (d.out ++ (bytesOf ps).flatten) d.need r.2.2 (max d.held (M.held r.1)) T) 45 (0, 0)) := (heap_setCell_same w4 gb 6 _ _ _ got4).trans (by simp [gotC])
        have R5 := HM.out.fr hR4 ((Fr.refl (fun b _ => b = gb) w4).setCell (b := gb) (o := 6) (fun _ => rfl) (.int .i64 (max d.held (M.held r.1)))) (fun b o hb e => hne2.1 (e ▸ hb)) (fun b _ hb e => NB.out b hb e)
        have G5 := Lib.hid got5
        have R5' := Lib.hid R5
        clear got4 got5 R5 hR4 g1 k4
        generalize hhd : max d.held (M.held r.1) = hd at *
        have HHD := Lib.hid hhd; clear hhd
        go_wp2_with (first
          | (refine (HM.out.need R5'.out).mono ?_; rintro e6 w6 ⟨rfl, hR6, g2⟩
             have got6 := (g2.block gb (Array.getElem?_eq_some_iff.1 G5.out).1 (fun _ h => hne2.1 h)).trans G5.out
             have c4 : w6.cell? ⟨gb, 4, none⟩ = some (.int .i64 d.need) := (by rw [cell_block got6]; rfl)
             have z4 : w6.frozen? ⟨gb, 4, none⟩ = false := (by simp [World.frozen?, got6])
             have G6 := Lib.hid got6; have R6 := Lib.hid hR6; have g2' := Lib.hid g2; clear got6 hR6 g2))
        go_roundw
        case rel =>
          have fw : Fr (fun x _ => F' x ∨ x = gb ∨ x = gb + 1) wr (w6.setCell ⟨gb, 4, none⟩ (.int .i64 (M.need r.1))) :=
            (((((FT2.out).step T3.out (fun x _ _ h => .inr (.inl h))).drew.step g1'.out (fun x _ hx h => by rcases HF2.out x h with h | h; exact .inl h; omega)).setCell (fun _ => .inr (.inl rfl)) _).step g2'.out (fun x _ hx h => by rcases HF2.out x h with h | h; exact .inl h; omega)).setCell (fun _ => .inr (.inl rfl)) _
          have fo : Fr (fun x _ => F2 x ∨ x = gb) w3 (w6.setCell ⟨gb, 4, none⟩ (.int .i64 (M.need r.1))) :=
            (((((Fr.refl _ w3).drew.step g1'.out (fun x _ hx h => .inl h)).setCell (fun _ => .inr rfl) _).step g2'.out (fun x _ hx h => .inl h)).setCell (fun _ => .inr rfl) _)
          refine ⟨n + 1, { (d.took M r) with taken := T }, F2, by go_num, by omega, Lib.hid (dinv_next HD.out (by omega) H1.out ?_ HF2.out rfl (htb) ?_ ?_ ?_ ?_ fw)⟩
          · exact HM.out.fr R6.out ((Fr.refl (fun b _ => b = gb) w6).setCell (fun _ => rfl) _) (fun b o hb e => hne2.1 (e ▸ hb)) (fun b _ hb e => NB.out b hb e)
          · have := hok.2; show (d.out ++ r.2.1.flatten).length ≤ _; rw [List.length_append]; omega
          · have h1 := HD.out.held; have h2 := HB3.out; show 0 ≤ max d.held (M.held r.1) ∧ max d.held (M.held r.1) ≤ 1000000; omega
          · refine (heap_setCell_same w6 gb 4 _ _ _ G6.out).trans ?_
            rw [hbo, ← HHD.out]
            simp [gotC, Drv.took]
          · rw [fo.block (gb + 1) (Array.getElem?_eq_some_iff.1 TL3.out).1 (fun _ h => by rcases h with h | h; exact hne2.2.1 h; omega)]; exact TL3.out
        case measure => simp [intOf]; omega
    have htki : ¬ (d.taken : Int) < b.length := by omega
    have htki' : (b.length : Int) ≤ d.taken := by omega
    have HTK := Lib.hid htk
    have HZ := Lib.hid hz
    have l0 : wr.cell? ⟨gb + 1, 0, none⟩ = some (.bool d.told) := by rw [cell_block HD.out.tld]; rfl
    have lz : wr.frozen? ⟨gb + 1, 0, none⟩ = false := by simp [World.frozen?, HD.out.tld]
    have FIN0 : Hid (∀ W, W = wr.setRow w.heap.size (gotC d.out 0 d.err d.held d.taken) → drive M b ended cuts s = d → DrivePost R F (drive M b ended cuts s) w (.returned (.agg (gotC d.out 0 d.err d.held d.taken))) W) := Lib.hid (by
      have := FIN.out; rw [hz] at this; exact this)
    clear htk FIN
    by_cases hend : ended = true
    rotate_left
    · obtain rfl : ended = false := by simpa using hend
      clear hend
      go_wp2_with (first | (refine wpList_store_row rfl 45 (.tmp 6) (.tmp 147) rfl w.heap.size (gotC d.out 0 d.err d.held d.taken) rfl rfl 45 (gotC [] 0 0 0 0) HD.out.res HSZ.out rfl (by simp [gotC, Value.oneCell']) ?_))
      refine bodyPost_ret (results_cell_row (p := 6) (ty := 45) (by kernel_rfl) _ _ w.heap.size 45 (gotC d.out 0 d.err d.held d.taken) (0, 0) _ rfl (setRow_heap _ w.heap.size _ _ 45 _ HD.out.res) Tryd.underlying45 rfl HSZ.out) rfl ?_
      exact FIN0.out _ rfl (HSTOP.out (.inl (by unfold drive1; rw [if_neg (by rw [HE.out, HZ.out]; simp), if_neg (by rw [HZ.out]; simp), if_neg HTK.out, if_neg (by simp)])))
    subst hend
    by_cases ht : d.told = true
    · have HTOLD := Lib.hid ht
      go_wp2_with (first | (refine wpList_store_row rfl 45 (.tmp 6) (.tmp 147) rfl w.heap.size (gotC d.out 0 d.err d.held d.taken) rfl rfl 45 (gotC [] 0 0 0 0) HD.out.res HSZ.out rfl (by simp [gotC, Value.oneCell']) ?_))
      refine bodyPost_ret (results_cell_row (p := 6) (ty := 45) (by kernel_rfl) _ _ w.heap.size 45 (gotC d.out 0 d.err d.held d.taken) (0, 0) _ rfl (setRow_heap _ w.heap.size _ _ 45 _ HD.out.res) Tryd.underlying45 rfl HSZ.out) rfl ?_
      exact FIN0.out _ rfl (HSTOP.out (.inl (by unfold drive1; rw [if_neg (by rw [HE.out, HZ.out]; simp), if_neg (by rw [HZ.out]; simp), if_neg HTK.out, if_neg (by rw [HTOLD.out]; simp)])))
    have ht' : d.told = false := by simpa using ht
    clear ht
    have H1 : Hid (drive1 M b true cuts n d = some { (d.took M (M.fin d.m)) with told := true }) := Lib.hid (by
      unfold drive1; rw [if_neg (by rw [HE.out, hz]; simp), if_neg (by rw [hz]; simp), if_neg HTK.out, if_pos ⟨rfl, ht'⟩])
    have got1 : (wr.setCell ⟨gb + 1, 0, none⟩ (.bool true)).heap[gb]? = some (.cells (gotC d.out d.need d.err d.held d.taken) 45 (0, 0)) := (heap_setCell_other wr _ _ _ (by simp)).trans HD.out.got
    have tl1 : (wr.setCell ⟨gb + 1, 0, none⟩ (.bool true)).heap[gb + 1]? = some (.cells #[.bool true, .bool false, .bool false, .bool false] 84 (0, 0)) := (heap_setCell_same wr (gb + 1) 0 _ _ _ HD.out.tld).trans (by simp)
    have ff2 : Fr (fun x _ => x = gb + 1) wr (wr.setCell ⟨gb + 1, 0, none⟩ (.bool true)) := Fr.setCell (S := fun x _ => x = gb + 1) (Fr.refl _ _) (fun _ => rfl) _
    have hans := HM.out.fin (HM.out.fr HD.out.R ff2 (fun x o hx e => (FR.out x hx).2.2.1 e) (fun b _ hb e => NB1.out b hb e)) (by rw [← HD.out.need]; exact hz)
    generalize M.fin d.m = r at *
    have HANS := Lib.hid hans
    have G1 := Lib.hid got1
    have TL1 := Lib.hid tl1
    have FF2 : Hid (Fr (fun x _ => F' x ∨ x = gb ∨ x = gb + 1) wr _) := Lib.hid (ff2.mono (fun _ _ _ h => .inr (.inr h)))
    clear hans got1 tl1 ff2
    have hmE := HM.out.ok.mE
    have hcE := HM.out.ok.cE
    go_wp2_with (first
        | (refine HANS.out.mono ?_; rintro e2 w2 ⟨oa, ps, oc, F2, rfl, hbo, hok, hout, hR2, hfr2, hF2'⟩;
            have hF2 : ∀ x, F2 x → F' x ∨ wr.heap.size ≤ x := (fun x hx => by rcases hF2' x hx with h | h; exact .inl h; (have := FF2.out.size; exact .inr (by omega)));
            have HO2 := Lib.hid hout; have HR2 := Lib.hid hR2; have FT2 : Hid (Fr (fun x _ => F' x ∨ x = gb ∨ x = gb + 1) wr w2) := Lib.hid (FF2.out.step hfr2 (fun x _ _ h => .inl h)); have HF2 := Lib.hid hF2;
            have hne2 : ¬ F2 gb ∧ ¬ F2 (gb + 1) ∧ ¬ F2 w.heap.size := (by
              refine ⟨fun h => ?_, fun h => ?_, fun h => ?_⟩ <;> (rcases HF2.out _ h with h | h; (have := FR.out _ h; omega); omega));
            have got2 := (hfr2.block gb (Array.getElem?_eq_some_iff.1 G1.out).1 (fun _ h => (FR.out _ h).2.1 rfl)).trans G1.out;
            have TLD2 := Lib.hid ((hfr2.block (gb + 1) (Array.getElem?_eq_some_iff.1 TL1.out).1 (fun _ h => (FR.out _ h).2.2.1 rfl)).trans TL1.out);
            clear hout hR2 hfr2 hF2 hF2')
        | (go_at_call 28; refine (put_any gb _ d.out d.need d.err d.held d.taken _ oa ps oc _ got2 (Array.getElem?_eq_some_iff.1 G1.out).1 HO2.out (by rw [hbo]; exact hok) (by have := HD.out.out; omega)).mono ?_; rintro e3 w3 ⟨rfl, got3, hfr3⟩))
    have KS := Lib.hid (fun (W : World) (h : Fr (InF F2) w3 W) => (show W.cell? ⟨gb, 6, none⟩ = some (.int .i64 d.held) ∧ W.frozen? ⟨gb, 6, none⟩ = false from by
      have := got_cells ((h.block gb (Array.getElem?_eq_some_iff.1 got3).1 (fun _ x => hne2.1 x)).trans got3)
      exact ⟨this.2.2.2.2.2.2.1, this.2.2.2.2.2.2.2.2.2.2.2.2 6⟩))
    have R3 := Lib.hid (fun (W : World) (h : Fr No w3 W) => HM.out.fr (HM.out.fr HR2.out hfr3 (fun b o hb e => hne2.1 (e ▸ hb)) (fun b _ hb e => NB.out b hb e)) h (fun _ _ _ x => x) (fun _ _ _ x => x))
    have k3 := KS.out _ (Fr.refl _ _).drew
    have HB3 := Lib.hid (HM.out.heldB (R3.out _ (Fr.refl _ _).drew))
    have T3 := Lib.hid hfr3
    have G3 := Lib.hid got3
    have TL3 := Lib.hid ((hfr3.block (gb + 1) (Array.getElem?_eq_some_iff.1 TLD2.out).1 (fun _ h => by omega)).trans TLD2.out)
    clear hfr3 got3
    go_region_with (first | (refine (HM.out.held (R3.out _ (Fr.refl _ _).drew)).mono ?_; rintro e4 w4 ⟨rfl, hR4, g1⟩; have k4 := KS.out _ ((Fr.refl _ _).drew.trans g1)))
    all_goals
      have ex : (if d.held < M.held r.1 then M.held r.1 else d.held) = max d.held (M.held r.1) := by rw [Int.max_def]; split <;> split <;> omega
      rw [ex]
      clear ex
      have g1' := Lib.hid g1
      have got4 := (g1.block gb (by simp; exact (Array.getElem?_eq_some_iff.1 G3.out).1) (fun _ h => hne2.1 h)).trans G3.out
      have got5 : (w4.setCell ⟨gb, 6, none⟩ (.int .i64 (max d.held (M.held r.1)))).heap[gb]? = some (.cells (gotC (d.out ++ (bytesOf ps).flatten) d.need r.2.2 (max d.held (M.held r.1)) d.taken) 45 (0, 0)) := (heap_setCell_same w4 gb 6 _ _ _ got4).trans (by simp [gotC])
      have R5 := HM.out.fr hR4 ((Fr.refl (fun b _ => b = gb) w4).setCell (b := gb) (o := 6) (fun _ => rfl) (.int .i64 (max d.held (M.held r.1)))) (fun b o hb e => hne2.1 (e ▸ hb)) (fun b _ hb e => NB.out b hb e)
      have G5 := Lib.hid got5
      have R5' := Lib.hid R5
      clear got4 got5 R5 hR4 g1 k4
      generalize hhd : max d.held (M.held r.1) = hd at *
      have HHD := Lib.hid hhd; clear hhd
      go_wp2_with (first
        | (refine (HM.out.need R5'.out).mono ?_; rintro e6 w6 ⟨rfl, hR6, g2⟩
           have got6 := (g2.block gb (Array.getElem?_eq_some_iff.1 G5.out).1 (fun _ h => hne2.1 h)).trans G5.out
           have c4 : w6.cell? ⟨gb, 4, none⟩ = some (.int .i64 d.need) := (by rw [cell_block got6]; rfl)
           have z4 : w6.frozen? ⟨gb, 4, none⟩ = false := (by simp [World.frozen?, got6])
           have G6 := Lib.hid got6; have R6 := Lib.hid hR6; have g2' := Lib.hid g2; clear got6 hR6 g2))
      go_roundw
      case rel =>
        have fw : Fr (fun x _ => F' x ∨ x = gb ∨ x = gb + 1) wr (w6.setCell ⟨gb, 4, none⟩ (.int .i64 (M.need r.1))) :=
          (((((FT2.out).step T3.out (fun x _ _ h => .inr (.inl h))).drew.step g1'.out (fun x _ hx h => by rcases HF2.out x h with h | h; exact .inl h; omega)).setCell (fun _ => .inr (.inl rfl)) _).step g2'.out (fun x _ hx h => by rcases HF2.out x h with h | h; exact .inl h; omega)).setCell (fun _ => .inr (.inl rfl)) _
        have fo : Fr (fun x _ => F2 x ∨ x = gb) w3 (w6.setCell ⟨gb, 4, none⟩ (.int .i64 (M.need r.1))) :=
          (((((Fr.refl _ w3).drew.step g1'.out (fun x _ hx h => .inl h)).setCell (fun _ => .inr rfl) _).step g2'.out (fun x _ hx h => .inl h)).setCell (fun _ => .inr rfl) _)
        refine ⟨n + 1, { (d.took M r) with told := true }, F2, by go_num, by omega, Lib.hid (dinv_next HD.out (by omega) H1.out ?_ HF2.out rfl (HD.out.taken) ?_ ?_ ?_ ?_ fw)⟩
        · exact HM.out.fr R6.out ((Fr.refl (fun b _ => b = gb) w6).setCell (fun _ => rfl) _) (fun b o hb e => hne2.1 (e ▸ hb)) (fun b _ hb e => NB.out b hb e)
        · have := hok.2; show (d.out ++ r.2.1.flatten).length ≤ _; rw [List.length_append]; omega
        · have h1 := HD.out.held; have h2 := HB3.out; show 0 ≤ max d.held (M.held r.1) ∧ max d.held (M.held r.1) ≤ 1000000; omega
        · refine (heap_setCell_same w6 gb 4 _ _ _ G6.out).trans ?_
          rw [hbo, ← HHD.out]
          simp [gotC, Drv.took]
        · rw [fo.block (gb + 1) (Array.getElem?_eq_some_iff.1 TL3.out).1 (fun _ h => by rcases h with h | h; exact hne2.2.1 h; omega)]; exact TL3.out
      case measure => simp [intOf]; omega
end Go.Proofs.YtjnebkoohimgjaaDoor
