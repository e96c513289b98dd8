/- slices.Sort at bytes, in the words of Base: the same bytes, rising, in the same place. -/
import Derived.Test.YtljldkknopmfhaaSortS
import Derived.Test.YtljldkknopmfhaaBase
namespace Go.Proofs.Ytljldkknopmfhaa
open Go.RowKit

/-- Bytes as numbers. -/
def numB (bs : List UInt8) : List Int := bs.map fun x => (x.toNat : Int)
/-- The bytes, rising. -/
def sortB (bs : List UInt8) : List UInt8 := ((numB bs).mergeSort fun x y => decide (x ≤ y)).map fun n => UInt8.ofNat n.toNat
theorem numB_sortB (bs : List UInt8) : (numB bs).mergeSort (fun x y => decide (x ≤ y)) = numB (sortB bs) := by
  unfold numB sortB
  rw [List.map_map]
  have h : ∀ n ∈ (numB bs).mergeSort (fun x y => decide (x ≤ y)), ((fun x : UInt8 => (x.toNat : Int)) ∘ fun n : Int => UInt8.ofNat n.toNat) n = n := by
    intro n hn
    have hn' := (List.mergeSort_perm (numB bs) _).mem_iff.1 hn
    obtain ⟨x, _, rfl⟩ := List.mem_map.1 hn'
    simp
  conv => lhs; rw [← List.map_id ((List.map _ bs).mergeSort _)]
  exact (List.map_congr_left fun n hn => (h n hn).symm)
theorem sortB_perm (bs : List UInt8) : (sortB bs).Perm bs := by
  have h := (List.mergeSort_perm (numB bs) (fun x y => decide (x ≤ y))).map fun n : Int => UInt8.ofNat n.toNat
  have e : (numB bs).map (fun n : Int => UInt8.ofNat n.toNat) = bs := by
    unfold numB; rw [List.map_map]
    conv => rhs; rw [← List.map_id bs]
    apply List.map_congr_left; intro x _; simp
  rw [e] at h
  exact h
theorem sortB_sorted (bs : List UInt8) : (sortB bs).Pairwise (fun x y => x.toNat ≤ y.toNat) := by
  have h := List.pairwise_mergeSort (le := fun x y : Int => decide (x ≤ y)) (by intro a b c; simp; omega) (by intro a b; simp; omega) (numB bs)
  rw [numB_sortB] at h
  unfold numB at h
  rw [List.pairwise_map] at h
  exact h.imp (by intro a b; simp)

def SortPost (w : World) (a : Option Addr) (n c : Nat) (bs : List UInt8) (e : Ending) (w' : World) : Prop :=
  e = .returned (.tuple #[]) ∧ OwnSl w' 5 1 (.slice a n c) n ((sortB bs).map bv) ∧ Fr (Blk (.slice a n c)) w w'
theorem sort_any (a : Option Addr) (n c : Nat) (bs : List UInt8) (w : World) (hn : n = bs.length) (h : OwnSl w 5 1 (.slice a n c) n (bs.map bv)) (hl : bs.length ≤ 100000000) :
    Calls Try.prog 99 #[.slice a n c] w (SortPost w a n c bs) := by
  subst hn
  rcases Nat.eq_zero_or_pos bs.length with h0 | h0
  · obtain rfl : bs = [] := List.eq_nil_of_length_eq_zero h0
    refine (Sb.Sort_nil a c w).mono ?_
    rintro e w' ⟨rfl, rfl⟩
    exact ⟨rfl, by simpa [sortB, numB] using h, Fr.refl _ _⟩
  · rcases h.2 with ⟨_, e0⟩ | ⟨g, off, cap, cur, hv, hg, h1, h2, h3, hr⟩
    · omega
    · injection hv with hv hv2 hv3
      subst hv; subst hv3
      have hlt : g < w.heap.size := (Array.getElem?_eq_some_iff.1 hg).1
      have hnl : (numB bs).length = bs.length := by simp [numB]
      have hH : Sort.Holds (Value.int .u8) w g off (numB bs).toArray := by
        intro j hj
        have hj' : j < bs.length := by simpa [numB] using hj
        refine ⟨?_, by simp [World.frozen?, hg]⟩
        rw [hr j (by simpa using hj')]
        simp [numB, List.getD_eq_getElem?_getD, hj', bv]
      have hc := Sb.slices_Sort g off c (numB bs) w hH hlt (by rw [hnl]; omega)
      rw [hnl] at hc
      refine hc.mono ?_
      rintro e w' ⟨rfl, n, os, rfl⟩
      rw [numB_sortB]
      have hsl : (sortB bs).length = bs.length := (sortB_perm bs).length_eq
      have hds : (numB (sortB bs)).toArray.size = (numB bs).toArray.size := by simp [numB, hsl]
      generalize hd : (numB (sortB bs)).toArray = d at *
      have hheap : ∀ b, b < w.heap.size → (Sort.grow (Sort.putRow (Value.int .u8) (Sort.ahead w n) g off d) os).heap[b]? = if b = g then some (.cells (Sort.putCells (Value.int .u8) off d cur) 5 (0, 0)) else w.heap[b]? := by
        intro b hb
        rw [Sort.heap_grow_old _ _ (by simpa using hb)]
        unfold Sort.putRow Sort.mapBlock
        simp only [Sort.heap_ahead, Array.getElem?_modify]
        by_cases hbg : g = b
        · subst hbg; simp [hg, Sort.onCells]
        · rw [if_neg hbg, if_neg (Ne.symm hbg)]
      have hcell : ∀ j, j < bs.length → (Sort.grow (Sort.putRow (Value.int .u8) (Sort.ahead w n) g off d) os).cell? ⟨g, off + j, none⟩ = some (.int .u8 d[j]!) := by
        intro j hj
        rw [Sort.cell?_grow _ _ _ (by simpa using hlt)]
        exact Sort.cell?_putRow _ _ _ _ (numB bs).toArray d (Sort.holds_ahead _ _ _ _ _ _ hH) hds j (by rw [hds]; simpa [numB] using hj)
      have hne : ∀ b, b < w.heap.size → (∀ o : Nat, ¬ Blk (.slice (some ⟨g, off, none⟩) bs.length c) b o) → (Sort.grow (Sort.putRow (Value.int .u8) (Sort.ahead w n) g off d) os).heap[b]? = w.heap[b]? := by
        intro b hb hs
        rw [hheap b hb, if_neg]
        rintro rfl
        exact hs 0 rfl
      refine ⟨rfl, ⟨by simp [hsl], .inr ⟨g, off, c, Sort.putCells (Value.int .u8) off d cur, rfl, by rw [hheap g hlt, if_pos rfl], h1, h2, by simpa [Sort.putCells] using h3, fun j hj => ?_⟩⟩, ?_⟩
      · have hj' : j < bs.length := by simpa [hsl] using hj
        rw [hcell j hj', ← hd]
        simp [numB, List.getD_eq_getElem?_getD, hsl, hj', bv]
      · exact ⟨rfl, rfl, rfl, by simp, fun b o hb hs => World.cell?_of_block (w := w) (a := ⟨b, o, none⟩) (hne b hb (fun _ => hs)), fun b o hb hs => World.frozen?_of_block (w := w) (a := ⟨b, o, none⟩) (hne b hb (fun _ => hs)), hne⟩
end Go.Proofs.Ytljldkknopmfhaa
