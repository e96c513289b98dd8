/- Graphs: does a way lead from a stage to itself: follow, round. -/
import Derived.Test.YtljldkknopmfhaaGrT
import Derived.Laws.EntriesVeiled
namespace Go.Proofs.Ytljldkknopmfhaa
open Go.RowKit

def mC (M : Nat → Bool) : Array Value := tabC 16 fun i => .bool (M i)
/-- The memory of round. -/
structure FI (w0 : World) (x : Gv) (f : Nat → Value) (bp bg bm bf : Nat) (M : Nat → Bool) (w : World) : Prop where
  p : w.heap[bp]? = some (.cells (tabC 32 f) 102 (0, 0))
  gb : w.heap[bg]? = some (.cells #[.slice x.sa x.sp.length x.sc, .slice x.da x.du.length x.dc] 63 (0, 0))
  m : w.heap[bm]? = some (.cells (mC M) 107 (0, 0))
  fb : w.heap[bf]? = some (.cells #[.func (.func 107) #[] #[.pointer (some ⟨bp, 0, none⟩), .pointer (some ⟨bg, 0, none⟩), .pointer (some ⟨bm, 0, none⟩), .pointer (some ⟨bf, 0, none⟩)]] 130 (0, 0))
  fr : Fr No w0 w
  low : w0.heap.size ≤ bm
theorem mC_set (M : Nat → Bool) (k : Nat) : (fun j => if j = k then Value.bool true else .bool (M j)) = fun j => .bool (setB M k j) := by
  funext j
  unfold setB
  split <;> rfl
theorem FI.mark {w0 w : World} {x : Gv} {f : Nat → Value} {bp bg bm bf : Nat} {M : Nat → Bool} (h : FI w0 x f bp bg bm bf M w) (k : Nat) : FI w0 x f bp bg bm bf (setB M k) (w.setCell ⟨bm, k, none⟩ (.bool true)) := by
  have hf := frSet w bm k (.bool true)
  have other : ∀ {b : Nat} {cs : Array Value} {t : TypeId}, w.heap[b]? = some (.cells cs t (0, 0)) → t ≠ 107 → (w.setCell ⟨bm, k, none⟩ (.bool true)).heap[b]? = some (.cells cs t (0, 0)) := fun {b cs t} hb ht =>
    (hf.block b (heap_lt hb) fun o e => by
      obtain ⟨e1, _⟩ := e
      subst e1
      rw [h.m] at hb
      injection hb with hb; injection hb with e2 e3
      exact ht e3.symm).trans hb
  refine ⟨other h.p (by decide), other h.gb (by decide), ?_, other h.fb (by decide), h.fr.setCell (fun hb => absurd hb (by have := h.low; omega)) _, h.low⟩
  have := block_set (k := k) h.m (.bool true)
  rw [mC_set] at this
  exact this
/-- What a graph's rows say of a stage's outputs. -/
def OutRows (w0 : World) (x : Gv) (f : Nat → Value) : Prop := ∀ s, s < x.sp.length → ∃ a, f (16 + s) = .slice a (x.g.outsOf s).length (x.g.outsOf s).length ∧ At w0 a ((x.g.outsOf s).map iv)
def FPost (w0 : World) (x : Gv) (f : Nat → Value) (bp bg bm bf n : Nat) (M : Nat → Bool) (e : Ending) (w' : World) : Prop :=
  e = .returned (.tuple #[]) ∧ ∃ M', Done x.g n M M' ∧ FI w0 x f bp bg bm bf M' w'
set_option maxHeartbeats 2000000 in
set_option maxRecDepth 100000 in
theorem follow_step (w0 : World) (x : Gv) (hx : x.Ok w0) (hl : x.g.Laid) (f : Nat → Value) (hr : OutRows w0 x f) (hL : ∀ s, s < x.sp.length → (x.g.outsOf s).length ≤ 64) (bp bg bm bf c : Nat)
    (IH : ∀ c', c' < c → ∀ (M : Nat → Bool) (n : Nat) (w : World), unmet M ≤ c' → n < x.sp.length → FI w0 x f bp bg bm bf M w → Calls Try.prog 107 #[.int .i64 n, .pointer (some ⟨bp, 0, none⟩), .pointer (some ⟨bg, 0, none⟩), .pointer (some ⟨bm, 0, none⟩), .pointer (some ⟨bf, 0, none⟩)] w (FPost w0 x f bp bg bm bf n M))
    (M : Nat → Bool) (n : Nat) (w : World) (hc : unmet M ≤ c) (hn : n < x.sp.length) (h : FI w0 x f bp bg bm bf M w) :
    Calls Try.prog 107 #[.int .i64 n, .pointer (some ⟨bp, 0, none⟩), .pointer (some ⟨bg, 0, none⟩), .pointer (some ⟨bm, 0, none⟩), .pointer (some ⟨bf, 0, none⟩)] w (FPost w0 x f bp bg bm bf n M) := by
  have hns : x.sp.length ≤ 16 := by have := hl.ns; rwa [x.st_len] at this
  have hn16 : (n : Int) < 16 := by omega
  obtain ⟨a, hfa, hat⟩ := hr n hn
  have hT := hL n hn
  have c0 : w.cell? ⟨bp, 16 + n, none⟩ = some (.slice a (x.g.outsOf n).length (x.g.outsOf n).length) := by rw [cell_block h.p, tabC_get f (by omega), hfa]
  have HE := Lib.hid (fun d (hd : d ∈ x.g.outsOf n) => out_entry hl (by rw [x.st_len]; exact hn) hd)
  have HEE := Lib.hid (fun y (hy : x.g.Edge n y) => edge_entry hl (by rw [x.st_len]; exact hn) hy)
  have HC := Lib.hid hc
  have H := Lib.hid h; have HAT := Lib.hid hat; have HX := Lib.hid hx; have HIH := Lib.hid IH
  generalize hTe : x.g.outsOf n = T at *
  clear h hat hx IH hfa hr hL hTe hc
  have hTi : (T.length : Int) ≤ 64 := by omega
  go_enter Try.func107, Try.ntmps107
  go_wp2
  go_loopw [14] (fun i wr => ∃ k : Nat, k ≤ T.length ∧ i = .int .i64 k ∧ Hid (∃ Mk, Part x.g n (fun y => ∃ j, ∃ h : j < T.length, j < k ∧ x.g.goes T[j] = y) M Mk ∧ FI w0 x f bp bg bm bf Mk wr)) (fun i _ => T.length - (intOf i).toNat)
  case atStart => exact ⟨0, Nat.zero_le _, rfl, Lib.hid ⟨M, (part_start x.g n M).more fun y ⟨j, _, hj, _⟩ => absurd hj (by omega), H.out⟩⟩
  case round =>
    obtain ⟨k, hk, rfl, HK⟩ := hrel
    by_cases hlt : k < T.length
    · obtain ⟨Mk, hP, hF⟩ := HK.out
      have hmem : T[k] ∈ T := List.getElem_mem _
      obtain ⟨e1, e2, e3, ⟨e4, e5⟩, e6⟩ := HE.out _ hmem
      obtain ⟨ga, oa, rfl, hrow⟩ := (HAT.out.fr hF.fr (fun _ _ _ _ _ _ x => x)) (by simp; omega)
      have c1 : wr.cell? ⟨ga, oa + k, none⟩ = some (.int .i64 T[k]) := hrow.get k (iv T[k]) (by simp [hlt])
      have hnext : ∀ Mq, Part x.g n (fun y => (∃ j, ∃ h : j < T.length, j < k ∧ x.g.goes T[j] = y) ∨ y = x.g.goes T[k]) M Mq → Part x.g n (fun y => ∃ j, ∃ h : j < T.length, j < k + 1 ∧ x.g.goes T[j] = y) M Mq := fun Mq hq => hq.more fun y ⟨j, h1, h2, h3⟩ => by
        by_cases e : j = k
        · subst e; exact .inr h3.symm
        · exact .inl ⟨j, h1, by omega, h3⟩
      have HN := Lib.hid hnext; clear hnext
      generalize T[k] = d at *
      obtain ⟨dn, rfl⟩ : ∃ dn : Nat, d = dn := ⟨d.toNat, by omega⟩
      rw [Int.toNat_natCast] at e3 e4 e5
      have hdn : dn < x.du.length := by have : (dn : Int) < x.g.du.length := e2; rw [x.du_len] at this; omega
      have hgo : x.g.goes dn = (x.du[dn]).to.toNat := by unfold Gr.goes; rw [Int.toNat_natCast, x.d_at hdn]
      rw [x.d_at hdn] at e4 e5
      obtain ⟨gd, od, hda, hdr⟩ := (HX.out.fr hF.fr).du.flat dc_len (by decide) (by omega)
      obtain ⟨-, -, c4, -, -⟩ := dc_cells hdr hdn
      have c2 : wr.cell? ⟨bg, 1, none⟩ = some (.slice (some ⟨gd, od, none⟩) x.du.length x.dc) := by rw [cell_block hF.gb 1, hda]; rfl
      have hst : x.g.st.length = x.sp.length := x.st_len
      have HG := Lib.hid hgo; have HD := Lib.hid e6
      generalize x.du[dn] = dd at *
      obtain ⟨dfrm, dout, dto, dinn, dcap⟩ := dd
      dsimp only at *
      obtain ⟨tn, rfl⟩ : ∃ tn : Nat, dto = tn := ⟨dto.toNat, by omega⟩
      have htn : tn < x.sp.length := by omega
      have hgt : x.g.goes dn = tn := by rw [HG.out, Int.toNat_natCast]
      rw [hgt] at HN HD
      have hti : (tn : Int) < 16 := by omega
      have c5 : wr.cell? ⟨bm, tn, none⟩ = some (.bool (Mk tn)) := by rw [cell_block hF.m]; exact tabC_get _ (by omega)
      have c6 := frozen_block hF.m tn
      have hki : (k : Int) < T.length := by omega
      have hdi : (dn : Int) < x.du.length := by omega
      have HP := Lib.hid hP; have HF := Lib.hid hF
      clear hP hF e1 e2 e3 e4 e5 e6 hmem HK hrow hdr HE HG hgo hgt
      cases hm : Mk tn with
      | true =>
        rw [hm] at c5
        go_wp2
        go_roundw
        case rel => exact ⟨k + 1, by omega, by go_num, Lib.hid ⟨Mk, HN.out _ (HP.out.met hm), HF.out⟩⟩
        case measure => simp [intOf]; omega
      | false =>
        rw [hm] at c5
        have hF2 := HF.out.mark tn
        have c7 := cell_block hF2.fb 0
        have hu := unmet_set (M := Mk) (k := tn) (by omega) hm
        have hu2 := unmet_mono HP.out.mono
        have HCL := Lib.hid (HIH.out _ (by have := HC.out; omega) (setB Mk tn) tn _ (Nat.le_refl _) htn hF2)
        clear hF2 hu hu2
        go_wp2_with (go_at_call 107; refine HCL.out.mono ?_; rintro e w2 ⟨rfl, M2, hD, hF2⟩)
        go_roundw
        case rel => exact ⟨k + 1, by omega, by go_num, Lib.hid ⟨M2, HN.out _ (HP.out.go HD.out hD), hF2⟩⟩
        case measure => simp [intOf]; omega
    · obtain rfl : k = T.length := by omega
      obtain ⟨Mk, hP, hF⟩ := HK.out
      have HP := Lib.hid hP; have HF := Lib.hid hF
      clear hP hF HK
      go_wp2
      refine bodyPost_end (results_none rfl _ _ _) rfl ?_
      exact ⟨rfl, Mk, HP.out.all fun y hy => (by
        obtain ⟨d, hd, e⟩ := HEE.out y hy
        obtain ⟨j, hj, rfl⟩ := List.getElem_of_mem hd
        exact ⟨j, hj, hj, e⟩), HF.out⟩
theorem follow_any (w0 : World) (x : Gv) (hx : x.Ok w0) (hl : x.g.Laid) (f : Nat → Value) (hr : OutRows w0 x f) (hL : ∀ s, s < x.sp.length → (x.g.outsOf s).length ≤ 64) (bp bg bm bf : Nat) : ∀ (c : Nat) (M : Nat → Bool) (n : Nat) (w : World), unmet M ≤ c → n < x.sp.length → FI w0 x f bp bg bm bf M w →
    Calls Try.prog 107 #[.int .i64 n, .pointer (some ⟨bp, 0, none⟩), .pointer (some ⟨bg, 0, none⟩), .pointer (some ⟨bm, 0, none⟩), .pointer (some ⟨bf, 0, none⟩)] w (FPost w0 x f bp bg bm bf n M) := by
  intro c
  induction c using Nat.strongRecOn with
  | ind c ih => exact follow_step w0 x hx hl f hr hL bp bg bm bf c ih
open Classical in
/-- round's answer. -/
noncomputable def Gr.roundB (g : Gr) (n : Nat) : Bool := decide (g.Reach n n)
open Classical in
theorem roundB_iff (g : Gr) (n : Nat) : g.roundB n = true ↔ g.Reach n n := by unfold Gr.roundB; exact decide_eq_true_iff
def RndPost (w : World) (b : Bool) (e : Ending) (w' : World) : Prop := e = .returned (.bool b) ∧ Fr No w w'
set_option maxHeartbeats 1000000 in
set_option maxRecDepth 100000 in
theorem round_any (w : World) (x : Gv) (hx : x.Ok w) (hl : x.g.Laid) (f : Nat → Value) (hr : OutRows w x f) (hL : ∀ s, s < x.sp.length → (x.g.outsOf s).length ≤ 64) (n : Nat) (hn : n < x.sp.length) :
    Calls Try.prog 96 #[.agg (tabC 32 f), .agg #[.slice x.sa x.sp.length x.sc, .slice x.da x.du.length x.dc], .int .i64 n] w (RndPost w (x.g.roundB n)) := by
  have hns : x.sp.length ≤ 16 := by have := hl.ns; rwa [x.st_len] at this
  have hni : (n : Int) < 16 := by omega
  have hstart : ∀ W : World, W = (((w.alloc (.cells (tabC 32 f) 102)).alloc (.cells #[.slice x.sa x.sp.length x.sc, .slice x.da x.du.length x.dc] 63)).alloc (.cells #[.bool false, .bool false, .bool false, .bool false, .bool false, .bool false, .bool false, .bool false, .bool false, .bool false, .bool false, .bool false, .bool false, .bool false, .bool false, .bool false] 107)).alloc (.cells #[.func (.func 107) #[] #[.pointer (some ⟨w.heap.size, 0, none⟩), .pointer (some ⟨w.heap.size + 1, 0, none⟩), .pointer (some ⟨w.heap.size + 1 + 1, 0, none⟩), .pointer (some ⟨w.heap.size + 1 + 1 + 1, 0, none⟩)]] 130) →
      FI w x f w.heap.size (w.heap.size + 1) (w.heap.size + 1 + 1) (w.heap.size + 1 + 1 + 1) (fun _ => false) W := by
    rw [show (#[.bool false, .bool false, .bool false, .bool false, .bool false, .bool false, .bool false, .bool false, .bool false, .bool false, .bool false, .bool false, .bool false, .bool false, .bool false, .bool false] : Array Value) = mC fun _ => false from rfl]
    rintro W rfl
    refine ⟨?_, ?_, ?_, ?_, ((((Fr.refl No w).alloc _).alloc _).alloc _).alloc _, by omega⟩
    · exact box_block ((((Fr.refl No _).alloc _).alloc _).alloc _)
    · have := box_block (w := w.alloc (.cells (tabC 32 f) 102)) (cs := #[.slice x.sa x.sp.length x.sc, .slice x.da x.du.length x.dc]) (t := 63) (f := (0, 0)) ((((Fr.refl No _).alloc (.cells (mC fun _ => false) 107)).alloc (.cells #[.func (.func 107) #[] #[.pointer (some ⟨w.heap.size, 0, none⟩), .pointer (some ⟨w.heap.size + 1, 0, none⟩), .pointer (some ⟨w.heap.size + 1 + 1, 0, none⟩), .pointer (some ⟨w.heap.size + 1 + 1 + 1, 0, none⟩)]] 130)))
      simpa using this
    · have := box_block (w := (w.alloc (.cells (tabC 32 f) 102)).alloc (.cells #[.slice x.sa x.sp.length x.sc, .slice x.da x.du.length x.dc] 63)) (cs := mC fun _ => false) (t := 107) (f := (0, 0)) ((((Fr.refl No _)).alloc (.cells #[.func (.func 107) #[] #[.pointer (some ⟨w.heap.size, 0, none⟩), .pointer (some ⟨w.heap.size + 1, 0, none⟩), .pointer (some ⟨w.heap.size + 1 + 1, 0, none⟩), .pointer (some ⟨w.heap.size + 1 + 1 + 1, 0, none⟩)]] 130)))
      simpa using this
    · have := heap_alloc_new (((w.alloc (.cells (tabC 32 f) 102)).alloc (.cells #[.slice x.sa x.sp.length x.sc, .slice x.da x.du.length x.dc] 63)).alloc (.cells (mC fun _ => false) 107)) (.cells #[.func (.func 107) #[] #[.pointer (some ⟨w.heap.size, 0, none⟩), .pointer (some ⟨w.heap.size + 1, 0, none⟩), .pointer (some ⟨w.heap.size + 1 + 1, 0, none⟩), .pointer (some ⟨w.heap.size + 1 + 1 + 1, 0, none⟩)]] 130)
      simpa using this
  have HS := Lib.hid hstart; clear hstart
  have HF := Lib.hid (follow_any w x hx hl f hr hL w.heap.size (w.heap.size + 1) (w.heap.size + 1 + 1) (w.heap.size + 1 + 1 + 1) 16 (fun _ => false) n)
  have HD := Lib.hid (fun M' (h : Done x.g n (fun _ => false) M') => show M' n = x.g.roundB n from by
    rw [Bool.eq_iff_iff, roundB_iff]; exact done_iff h n)
  clear hx hl hr hL
  go_enter Try.func96, Try.ntmps96
  go_wp2_with (go_at_call 107; refine (HF.out _ (unmet_le _) hn (HS.out _ rfl)).mono ?_; rintro e w2 ⟨rfl, M2, hD, hF2⟩
               have c9 : w2.cell? ⟨w.heap.size + 1 + 1, n, none⟩ = some (.bool (M2 n)) := (by rw [cell_block hF2.m]; exact tabC_get _ (by omega))
               rw [HD.out _ hD] at c9)
  go_ret
  exact ⟨rfl, hF2.fr⟩
end Go.Proofs.Ytljldkknopmfhaa
