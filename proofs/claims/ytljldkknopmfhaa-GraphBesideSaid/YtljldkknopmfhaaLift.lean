/- From what the rows say of arguments to what the walks ask. -/
import Derived.Test.YtljldkknopmfhaaBase
import Derived.ProofKit
import Derived.OpenShut
import Derived.ShutString
import Derived.ChangeOld
import Derived.Below
import Derived.SliceStrings
import Derived.Deep.Slices
import Derived.SizedLaws
namespace Go.Proofs.Ytljldkknopmfhaa
open Go.ChangeShapes Go.WideShapes Go.ChangeAt Go.RowKit

/-- A value that reads as bytes. -/
def IsB (w : World) (v : Value) (bs : List UInt8) : Prop := ∃ a cap, v = .slice a bs.length cap ∧ bs.length ≤ cap ∧ cap ≤ maxLen ∧ At w a (bs.map bv) ∧ ∀ g off, a = some ⟨g, off, none⟩ → g < w.heap.size ∨ bs = []

theorem add_off (b o i : Nat) : (⟨b, o, none⟩ : Addr).add i = ⟨b, o + i, none⟩ := by unfold Addr.add; split <;> simp_all

/-- All elements are read. -/
def len_ok (len _cap n : Nat) : Prop := len ≤ n
theorem isB_of' {w : World} {x : Addr} {len cap : Nat} {zs : List Int} (hl : len ≤ cap) (hm : cap ≤ maxLen) (hz0 : len_ok len cap zs.length) (hc : ∀ i, i < zs.length → w.cell? (x.add i) = some (.int .u8 (zs.getD i 0))) (hw : ∀ n ∈ zs, (Lit.int .u8 n).wf = true) :
    IsB w (.slice (some x) len cap) ((zs.take len).map fun n => UInt8.ofNat n.toNat) := by
  have hz : len ≤ zs.length := hz0
  have hlen : ((zs.take len).map fun n => UInt8.ofNat n.toNat).length = len := by simp; omega
  have hmap : ((zs.take len).map fun n => UInt8.ofNat n.toNat).map bv = (zs.take len).map (Value.int .u8) := by
    rw [List.map_map]
    apply List.map_congr_left
    intro n hn
    have := hw n (List.mem_of_mem_take hn)
    simp [Lit.wf, IntKind.min, IntKind.max, IntKind.signed, IntKind.bits] at this
    simp [bv]
    omega
  refine ⟨some x, cap, by rw [hlen], by rw [hlen]; exact hl, hm, fun hp => ?_, fun g off e => ?_⟩
  · rw [hmap] at hp ⊢
    have hp' : 0 < len := by rcases Nat.eq_zero_or_pos len with h | h; simp [h] at hp; exact h
    obtain ⟨b, o, sp⟩ := x
    have h0 := hc 0 (by omega)
    have hsp : sp = none := by simpa [Addr.add] using World.cell?_spot h0
    subst hsp
    refine ⟨b, o, rfl, fun i hi => ?_⟩
    have hi' : i < len := by simp at hi; omega
    have h1 := hc i (by omega)
    rw [add_off] at h1
    rw [h1]
    simp [List.getD_eq_getElem?_getD, hi', List.getElem?_eq_getElem (show i < zs.length by omega)]
  · rcases Nat.eq_zero_or_pos len with h | h
    · right; simp [h]
    · left
      cases e
      exact World.block_lt_of_cell? w _ (by have := hc 0 (by omega); rw [add_off] at this; exact this)
theorem isB_of {w : World} {x : Addr} {len cap : Nat} {zs : List Int} (hl : len ≤ cap) (hm : cap ≤ maxLen) (hz : zs.length = cap) (hc : ∀ i, i < zs.length → w.cell? (x.add i) = some (.int .u8 (zs.getD i 0))) (hw : ∀ n ∈ zs, (Lit.int .u8 n).wf = true) :
    IsB w (.slice (some x) len cap) ((zs.take len).map fun n => UInt8.ofNat n.toNat) := isB_of' hl hm (by unfold len_ok; omega) hc hw
theorem isB_nil (w : World) : IsB w (.slice none 0 0) [] := ⟨none, 0, rfl, Nat.le_refl _, Nat.zero_le _, At.nil _ _, by simp⟩

/-- A value that reads as strings. -/
def IsS (w : World) (v : Value) (ls : List (List UInt8)) : Prop := ∃ a cap, v = .slice a ls.length cap ∧ ls.length ≤ cap ∧ cap ≤ maxLen ∧ At w a (ls.map sv) ∧ ∀ l ∈ ls, l.length ≤ maxLen
/-- A value that reads as pieces. -/
def IsP (w : World) (v : Value) (ps : List (List UInt8)) : Prop := ∃ a cap, v = .slice a ps.length cap ∧ ps.length ≤ cap ∧ cap ≤ maxLen ∧ AtP w a ps ∧ ∀ p ∈ ps, p.length ≤ 140737488351232
section
variable {H : Type} {enc : TypeId × Value → H} {P : Program} {w : World} {base : Nat} {spare : Nat → Bool} {held : Bool}
theorem isB_of_trod {t e : TypeId} {fuel : Nat} {v : Value} {x : DataW H × List MemPlace} (ht : P.underlying t = some (.slice e)) (he : P.underlying e = some (.int .u8)) (hc : P.cellsOf e = 1) (h : DataW.trod enc P w base spare held fuel t [v] = some x) : ∃ l, IsB w v l := by
  rcases open_ints ht he hc h with ⟨hcs, _⟩ | ⟨a, l, c, zs, hcs, _, hl, hm, hz, _, hcell, hwz⟩
  · injection hcs with hcs; subst hcs; exact ⟨[], isB_nil w⟩
  · injection hcs with hcs; subst hcs
    -- what is read may be shorter than the capacity
    have hzl : len_ok l c zs.length := by
      unfold len_ok
      rw [hz]; split <;> omega
    exact ⟨_, isB_of' hl hm hzl hcell hwz⟩
theorem isS_of_trod {t e : TypeId} {fuel : Nat} {v : Value} {x : DataW H × List MemPlace} (ht : P.underlying t = some (.slice e)) (he : P.underlying e = some .string) (hc : P.cellsOf e = 1) (h : DataW.trod enc P w base spare held fuel t [v] = some x) : ∃ l, IsS w v l := by
  rcases open_strings ht he hc h with ⟨hcs, _⟩ | ⟨a, len, cap, ss, hcs, _, hl, hm, hz, _, hcell, hsz⟩
  · injection hcs with hcs; subst hcs
    exact ⟨[], none, 0, rfl, Nat.le_refl _, Nat.zero_le _, At.nil _ _, by simp⟩
  · injection hcs with hcs; subst hcs
    have hz' : len ≤ ss.length := by rw [hz]; split <;> omega
    have hlen : ((ss.take len).map fun s => s.data.toList).length = len := by simp; omega
    refine ⟨(ss.take len).map fun s => s.data.toList, some a, cap, by rw [hlen], by rw [hlen]; exact hl, hm, fun hp => ?_, ?_⟩
    · have hp' : 0 < len := by rw [List.length_map, hlen] at hp; exact hp
      obtain ⟨b, o, sp⟩ := a
      have h0 := hcell 0 (by omega)
      have hsp : sp = none := by simpa [Addr.add] using World.cell?_spot h0
      subst hsp
      refine ⟨b, o, rfl, fun i hi => ?_⟩
      have hi' : i < len := by rw [List.length_map, hlen] at hi; exact hi
      have h1 := hcell i (by omega)
      rw [add_off] at h1
      rw [h1]
      simp [List.getD_eq_getElem?_getD, hi', List.getElem?_eq_getElem (show i < ss.length by omega)]
    · intro l hl
      obtain ⟨s, hs, rfl⟩ := List.mem_map.1 hl
      rw [Array.length_toList]
      exact hsz s (List.mem_of_mem_take hs)
theorem list_of {α : Type} (n : Nat) (Q : Nat → α → Prop) (h : ∀ i, i < n → ∃ x, Q i x) : ∃ l : List α, l.length = n ∧ ∀ i (hi : i < l.length), Q i l[i] := by
  induction n with
  | zero => exact ⟨[], rfl, fun i hi => absurd hi (by simp)⟩
  | succ n ih =>
    obtain ⟨l, h1, h2⟩ := ih fun i hi => h i (by omega)
    obtain ⟨x, hx⟩ := h n (by omega)
    refine ⟨l ++ [x], by simp [h1], fun i hi => ?_⟩
    by_cases hin : i < n
    · rw [List.getElem_append_left (by omega)]; exact h2 i (by omega)
    · obtain rfl : i = n := by simp at hi; omega
      rw [List.getElem_append_right (by omega)]; simpa [h1] using hx
theorem weights_mem_all : ∀ {l : List (DataW H)} {e : TypeId} {d : DataW H}, d ∈ l → ∀ n ∈ d.weights P e, n ∈ DataW.weightsAll P e l
  | d0 :: l, e, d, hd, n, hn => by
    simp only [DataW.weightsAll, List.mem_append]
    rcases List.mem_cons.1 hd with h | h
    · subst h; exact .inl hn
    · exact .inr (weights_mem_all h n hn)
theorem slice_reach {t e : TypeId} {fuel : Nat} {v : Value} {x : DataW H × List MemPlace} (ht : P.underlying t = some (.slice e)) (h : DataW.trod enc P w base spare held fuel t [v] = some x) (hw : ∀ n ∈ x.1.weights P t, n ≤ reachBytes) {a : Option Addr} {len cap : Nat} (hv : v = .slice a len cap) : len * P.bytesOf e ≤ reachBytes := by
  rcases Deep.open_slice ht h with ⟨hcs, _⟩ | ⟨a', len', cap', m, n, D, Pl, hcs, _, hl, hm, hmm, hx, _⟩
  · injection hcs with hcs; subst hv; injection hcs with h1 h2 h3; subst h2; simp
  · injection hcs with hcs; subst hv; injection hcs with h1 h2 h3; subst h2
    subst hx
    have := hw ((((List.range len).map D).length + ((List.range (m - len)).map fun j => D (len + j)).length) * P.bytesOf e) (by simp [DataW.weights, ht])
    simp only [List.length_map, List.length_range] at this
    exact Nat.le_trans (Nat.mul_le_mul_right _ (by omega)) this
theorem isP_of_trod {t e b : TypeId} {fuel : Nat} {v : Value} {x : DataW H × List MemPlace} (ht : P.underlying t = some (.slice e)) (he : P.underlying e = some (.slice b)) (hb : P.underlying b = some (.int .u8)) (hc : P.cellsOf e = 1) (hcb : P.cellsOf b = 1) (hbb : P.bytesOf b = 1) (h : DataW.trod enc P w base spare held fuel t [v] = some x) (hw : ∀ n ∈ x.1.weights P t, n ≤ reachBytes) : ∃ l, IsP w v l := by
  rcases Deep.open_slice1 ht hc h with ⟨hcs, _⟩ | ⟨a, len, cap, m, n, V, D, Pl, hcs, _, hl, hm, hmm, hxd, hx⟩
  · injection hcs with hcs; subst hcs
    exact ⟨[], none, 0, rfl, Nat.le_refl _, Nat.zero_le _, fun h => absurd h (by simp), by simp⟩
  · injection hcs with hcs; subst hcs
    have hmz : len ≤ m := by rw [hmm]; split <;> omega
    obtain ⟨ps, h1, h2⟩ := list_of len (fun i l => IsB w (V i) l ∧ l.length ≤ 140737488351232) fun i hi => by
      obtain ⟨l, hl⟩ := isB_of_trod he hb hcb (hx i (by omega)).2
      refine ⟨l, hl, ?_⟩
      obtain ⟨xa, c, hv, _⟩ := hl
      have := slice_reach he (hx i (by omega)).2 (fun n hn => hw n (by
        subst hxd
        simp only [DataW.weights, ht, List.mem_cons, List.mem_append]
        exact .inr (.inl (weights_mem_all (d := D i) (List.mem_map.2 ⟨i, List.mem_range.2 hi, rfl⟩) n hn)))) hv
      rw [hbb] at this
      unfold reachBytes at this
      omega
    refine ⟨ps, some a, cap, by rw [h1], by omega, hm, fun hp => ?_, fun p hp => ?_⟩
    rotate_left
    · obtain ⟨i, hi, rfl⟩ := List.getElem_of_mem hp
      exact (h2 i hi).2
    obtain ⟨g, o, sp⟩ := a
    have h0 := (hx 0 (by omega)).1
    have hsp : sp = none := by simpa [Addr.add] using World.cell?_spot h0
    subst hsp
    refine ⟨g, o, rfl, fun i hi => ?_⟩
    obtain ⟨xa, c, hv, _, _, hat, _⟩ := (h2 i hi).1
    refine ⟨xa, c, ?_, hat⟩
    have := (hx i (by omega)).1
    rw [add_off, hv] at this
    exact this
end
end Go.Proofs.Ytljldkknopmfhaa
