/- Drive's helper cut: how many bytes go at once. -/
import Derived.Test.YtjnebkoohimgjaaDoorMach
namespace Go.Proofs.YtjnebkoohimgjaaDoor
open Go.RowKit

def iv (x : Int) : Value := .int .i64 x
set_option maxRecDepth 100000 in
theorem dcut_any (ca : Option Addr) (cuts : List Int) (cc n : Nat) (w : World) (h : At w ca (cuts.map iv)) (_hn : n ≤ 100000) (_hl : cuts.length ≤ 100000) :
    Calls Tryd.prog 29 #[.slice ca cuts.length cc, .int .i64 n] w fun e w' => e = .returned (.int .i64 (cutN cuts n)) ∧ w = w' := by
  by_cases h0 : cuts = []
  · subst h0
    have e0 : cutN [] n = 32 := by simp [cutN]
    rw [e0]
    go_enter Tryd.func29, Tryd.ntmps29
    go_wp2
    go_ret
    exact ⟨rfl, rfl⟩
  · have hpos : 0 < cuts.length := List.length_pos_iff.2 h0
    obtain ⟨g, off, rfl, hrow⟩ := h (by simpa using hpos)
    have hm : n % cuts.length < cuts.length := Nat.mod_lt _ hpos
    have hcell := hrow.get (n % cuts.length) (iv (cuts.getD (n % cuts.length) 0)) (by simp [hm])
    unfold iv at hcell
    have hk : cutN cuts n = ((cuts.getD (n % cuts.length) 0).tmod 32).natAbs + 1 := by unfold cutN; rw [if_neg h0]
    have h1 := Int.tmod_lt_of_pos (cuts.getD (n % cuts.length) 0) (b := 32) (by decide)
    have h2 := Int.lt_tmod_of_pos (cuts.getD (n % cuts.length) 0) (b := 32) (by decide)
    generalize cuts.getD (n % cuts.length) 0 = x at *
    rw [hk]
    clear hk
    have hmi : (n : Int).tmod cuts.length = ((n % cuts.length : Nat) : Int) := by rw [Int.ofNat_tmod]
    have hne : ((cuts.length : Int) == 0) = false := by simpa using h0
    clear h0
    generalize n % cuts.length = j at *
    by_cases hy : x.tmod 32 < 0
    · have e1 : (((x.tmod 32).natAbs + 1 : Nat) : Int) = -(x.tmod 32) + 1 := by omega
      rw [e1]
      go_enter Tryd.func29, Tryd.ntmps29
      go_wp2
      go_ret
      exact ⟨rfl, rfl⟩
    · have e1 : (((x.tmod 32).natAbs + 1 : Nat) : Int) = x.tmod 32 + 1 := by omega
      rw [e1]
      go_enter Tryd.func29, Tryd.ntmps29
      go_wp2
      go_ret
      exact ⟨rfl, rfl⟩
end Go.Proofs.YtjnebkoohimgjaaDoor

/- Drive's helper put: what comes out is kept. -/
namespace Go.Proofs.YtjnebkoohimgjaaDoor
open Go.RowKit

/-- What Drive keeps, as the program has it. -/
def gotC (out : List UInt8) (need err held taken : Int) : Array Value :=
  #[sv out, sv [], sv [], sv [], .int .i64 need, .int .i64 err, .int .i64 held, .int .i64 taken, .int .i64 0, .int .i64 0, .int .i64 0, .bool false]
theorem bytesOf_app (a b : List Piece) : bytesOf (a ++ b) = bytesOf a ++ bytesOf b := List.map_append
theorem str_app (a b : List UInt8) : ((⟨a.toArray⟩ : ByteArray) ++ ⟨b.toArray⟩) = ⟨(a ++ b).toArray⟩ := by
  apply ByteArray.ext
  simp
theorem outOk_len : ∀ l : List (List UInt8), (∀ p ∈ l, p ≠ []) → l.length ≤ l.flatten.length
  | [], _ => by simp
  | p :: l, h => by
    have h1 := outOk_len l (fun q hq => h q (by simp [hq]))
    have h2 : 0 < p.length := List.length_pos_iff.2 (h p (by simp))
    rw [List.flatten_cons, List.length_append, List.length_cons]; omega
def PutPost (gb : Nat) (out : List UInt8) (need held taken e : Int) (w : World) (e' : Ending) (w' : World) : Prop :=
  e' = .returned (.tuple #[]) ∧ w'.heap[gb]? = some (.cells (gotC out need e held taken) 45 (0, 0)) ∧ Fr (fun b _ => b = gb) w w'
set_option maxHeartbeats 1000000 in
set_option maxRecDepth 100000 in
theorem put_any (gb B : Nat) (out : List UInt8) (need err held taken e : Int) (a : Option Addr) (ps : List Piece) (c : Nat) (w : World) (hg : w.heap[gb]? = some (.cells (gotC out need err held taken) 45 (0, 0))) (hB : gb < B)
    (ho : Outs w B a ps) (hok : OutOk (bytesOf ps)) (hlen : out.length ≤ 1000000000) :
    Calls Tryd.prog 28 #[.pointer (some ⟨gb, 0, none⟩), .slice a ps.length c, .int .i64 e] w (PutPost gb (out ++ (bytesOf ps).flatten) need held taken e w) := by
  have HG := Lib.hid hg; clear hg
  have HO := Lib.hid ho; clear ho
  have hpsl : ps.length ≤ 1024 := by have := outOk_len _ hok.1; have := hok.2; simp [bytesOf] at *; omega
  have HK := Lib.hid hok; clear hok
  have hgl : gb < w.heap.size := (Array.getElem?_eq_some_iff.1 HG.out).1
  go_enter Tryd.func28, Tryd.ntmps28
  go_wp2
  go_loopw [6, 7] (fun s i wr => ∃ k : Nat, k ≤ ps.length ∧ i = .int .i64 k ∧ s = .int .i64 ((bytesOf (ps.take k)).flatten.length) ∧ Hid (wr.heap[gb]? = some (.cells (gotC (out ++ (bytesOf (ps.take k)).flatten) need err held taken) 45 (0, 0))) ∧ Hid (Fr (fun b _ => b = gb) w wr)) (fun _ i _ => ps.length - (intOf i).toNat)
  case atStart => exact ⟨0, Nat.zero_le _, rfl, by simp [bytesOf], Lib.hid (by simpa [bytesOf] using HG.out), Lib.hid (Fr.refl _ _)⟩
  case round =>
    obtain ⟨k, hk, rfl, rfl, HW, HF⟩ := hrel
    by_cases hlt : k < ps.length
    · obtain ⟨g, off, rfl, hrow⟩ := (HO.out.fr HF.out (fun b o hb _ e => by omega)).cells (by rw [pcells_length]; omega)
      have hgB := HO.out.new g off rfl
      obtain ⟨hp1, hp2⟩ := pcells_get ps k hlt
      have hc0 := hrow.get _ _ hp1
      have hc1 := hrow.get _ _ hp2
      rw [← Nat.add_assoc] at hc1
      have hgne : g ≠ gb := by omega
      obtain ⟨hat, hnew⟩ := HO.out.bytes ps[k] (List.getElem_mem _)
      have hat := hat.fr HF.out (fun g' o' e' _ i _ e => by have := hnew g' o' e'; omega)
      have hne : ps[k].2.2 ≠ [] := HK.out.1 _ (List.mem_map.2 ⟨ps[k], List.getElem_mem _, rfl⟩)
      have hsum : (bytesOf (ps.take (k + 1))).flatten = (bytesOf (ps.take k)).flatten ++ ps[k].2.2 := by rw [List.take_succ_eq_append_getElem hlt, bytesOf_app, List.flatten_append]; simp [bytesOf]
      have hle : (bytesOf (ps.take (k + 1))).flatten.length ≤ 1024 := by
        have h1 := HK.out.2
        have h2 : (bytesOf ps).flatten = (bytesOf (ps.take (k + 1))).flatten ++ (bytesOf (ps.drop (k + 1))).flatten := by
          conv => lhs; rw [← List.take_append_drop (k + 1) ps]
          rw [bytesOf_app, List.flatten_append]
        rw [h2, List.length_append] at h1; omega
      have hpl : 0 < ps[k].2.2.length := List.length_pos_iff.2 hne
      have hcv : (convert 22 9 (.slice ps[k].1 ps[k].2.2.length ps[k].2.1)).run Tryd.prog wr.drew = .ok (.string ⟨ps[k].2.2.toArray⟩) wr.drew :=
        conv_at (P := Tryd.prog) (cap := ps[k].2.1) (hat.fr (Fr.refl No wr).drew (fun _ _ _ _ _ _ x => x)) (src := 22) (dst := 9) Tryd.underlying22 Tryd.underlying5 Tryd.underlying9
      clear hat hnew hne hp1 hp2 hrow
      rw [hsum, List.length_append] at hle
      have HS := Lib.hid hsum; clear hsum
      have o0 : wr.cell? ⟨gb, 0, none⟩ = some (sv (out ++ (bytesOf (ps.take k)).flatten)) := by rw [cell_block HW.out]; rfl
      have z0 : wr.frozen? ⟨gb, 0, none⟩ = false := by simp [World.frozen?, HW.out]
      generalize ps[k] = p at *
      obtain ⟨pa, pc, pb⟩ := p
      dsimp only at *
      generalize (bytesOf (ps.take k)).flatten = sofar at *
      have hlei : (sofar.length : Int) + pb.length ≤ 1024 := by omega
      have hkp : (k : Int) < ps.length := by omega
      have hne1 : ((pb.length : Int) == 0) = false := by simp; intro e; subst e; simp at hpl
      have hgw : gb < wr.heap.size := by have := HF.out.size; omega
      have hout : (out.length : Int) + sofar.length + pb.length ≤ 9223372036854775807 := by omega
      go_wp2
      go_region
      go_wp2
      go_roundw
      case rel =>
        refine ⟨k + 1, by omega, by go_num, by rw [HS.out]; simp, Lib.hid ?_, Lib.hid ((HF.out.setCell (fun _ => rfl) _).drew)⟩
        rw [HS.out]
        exact (heap_setCell_same wr gb 0 _ _ _ HW.out).trans (by rw [str_app]; simp [gotC, sv])
      case measure => simp [intOf]; omega
    · obtain rfl : k = ps.length := by omega
      have o5 : wr.cell? ⟨gb, 5, none⟩ = some (.int .i64 err) := by rw [cell_block HW.out]; rfl
      have z5 : wr.frozen? ⟨gb, 5, none⟩ = false := by simp [World.frozen?, HW.out]
      rw [List.take_length] at HW
      have H5 := Lib.hid ((heap_setCell_same wr gb 5 _ _ (.int .i64 e) HW.out).trans (show _ = some (Obj.cells (gotC (out ++ (bytesOf ps).flatten) need e held taken) 45 (0, 0)) by simp [gotC]))
      go_wp2
      refine bodyPost_end (results_none rfl _ _ _) rfl ?_
      exact ⟨rfl, H5.out, HF.out.setCell (fun _ => rfl) _⟩
end Go.Proofs.YtjnebkoohimgjaaDoor
