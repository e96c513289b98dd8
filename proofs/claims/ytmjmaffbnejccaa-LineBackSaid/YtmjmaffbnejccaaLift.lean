/- From what the rows say of arguments to what the walks ask. -/
import Derived.Test.YtmjmaffbnejccaaBase
import Derived.ProofKit
import Derived.OpenShut
import Derived.ShutString
import Derived.ChangeOld
import Derived.Below
import Derived.SliceStrings
import Derived.Deep.Slices
namespace Go.Proofs.Ytmjmaffbnejccaa
open Go.ChangeShapes Go.WideShapes Go.ChangeAt Go.RowKit

/-- A value that reads as bytes. -/
def IsB (w : World) (v : Value) (bs : List UInt8) : Prop := ∃ a cap, v = .slice a bs.length cap ∧ bs.length ≤ cap ∧ cap ≤ maxLen ∧ At w a (bs.map bv) ∧ ∀ g off, a = some ⟨g, off, none⟩ → g < w.heap.size ∨ bs = []

theorem add_off (b o i : Nat) : (⟨b, o, none⟩ : Addr).add i = ⟨b, o + i, none⟩ := by unfold Addr.add; split <;> simp_all

theorem isB_of {w : World} {x : Addr} {len cap : Nat} {zs : List Int} (hl : len ≤ cap) (hm : cap ≤ maxLen) (hz : zs.length = cap) (hc : ∀ i, i < zs.length → w.cell? (x.add i) = some (.int .u8 (zs.getD i 0))) (hw : ∀ n ∈ zs, (Lit.int .u8 n).wf = true) :
    IsB w (.slice (some x) len cap) ((zs.take len).map fun n => UInt8.ofNat n.toNat) := by
  have hlen : ((zs.take len).map fun n => UInt8.ofNat n.toNat).length = len := by simp; omega
  have hmap : ((zs.take len).map fun n => UInt8.ofNat n.toNat).map bv = (zs.take len).map (Value.int .u8) := by
    rw [List.map_map]
    apply List.map_congr_left
    intro n hn
    have := hw n (List.mem_of_mem_take hn)
    simp [Lit.wf, IntKind.min, IntKind.max, IntKind.signed, IntKind.bits] at this
    simp [bv]
    omega
  refine ⟨some x, cap, by rw [hlen], by rw [hlen]; exact hl, hm, fun hp => ?_, fun g off e => ?_⟩
  · rw [hmap] at hp ⊢
    have hp' : 0 < len := by rcases Nat.eq_zero_or_pos len with h | h; simp [h] at hp; exact h
    obtain ⟨b, o, sp⟩ := x
    have h0 := hc 0 (by omega)
    have hsp : sp = none := by simpa [Addr.add] using World.cell?_spot h0
    subst hsp
    refine ⟨b, o, rfl, fun i hi => ?_⟩
    have hi' : i < len := by simp at hi; omega
    have h1 := hc i (by omega)
    rw [add_off] at h1
    rw [h1]
    simp [List.getD_eq_getElem?_getD, hi', List.getElem?_eq_getElem (show i < zs.length by omega)]
  · rcases Nat.eq_zero_or_pos len with h | h
    · right; simp [h]
    · left
      cases e
      exact World.block_lt_of_cell? w _ (by have := hc 0 (by omega); rw [add_off] at this; exact this)
theorem isB_nil (w : World) : IsB w (.slice none 0 0) [] := ⟨none, 0, rfl, Nat.le_refl _, Nat.zero_le _, At.nil _ _, by simp⟩
end Go.Proofs.Ytmjmaffbnejccaa
