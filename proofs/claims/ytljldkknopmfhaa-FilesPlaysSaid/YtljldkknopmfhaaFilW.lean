/- A disk's Live: the numbers of its files, rising. -/
import Derived.Test.YtljldkknopmfhaaFilV
import Derived.Test.YtljldkknopmfhaaIter
import Derived.Lib.SlKeysI
import Derived.Sort.KeysCollected
namespace Go.Proofs.Ytljldkknopmfhaa
open Go.RowKit Go.Maps Go Go.Sort Go.Shelf

theorem sh_sorts (m : Nat) : AnyZI.SortsIn Try.prog sh_sortedI_ren Fence.wide m :=
  ⟨fun blk off cap ss W hH hblk hsz => callsIn_wide.2 (AnyM.slices_Sort_int sh_sortI blk off cap ss W hH hblk hsz),
   fun p cap W => callsIn_wide.2 (AnyM.slices_Sort_int_none sh_sortI p cap W)⟩
theorem live_perm {w : World} {d : Nat} {S : List (Int × Int)} {st : DS} {tg : Nat → Nat} {X : DX} (h : DRep w d S st tg X) (hlen : st.there.length = st.texts.length) : st.live.Perm (intKeys X.D) := by
  obtain ⟨es, hD, hap, _⟩ := h.own.entries (int_keyed Try.underlying3)
  obtain ⟨es', hD', hk⟩ := h.own.keysOf
  rw [hD] at hD'
  injection hD' with hD'
  subst hD'
  rw [hD]
  refine perm_intKeys hap (fun p hp => ?_) ((liveFrom_sorted st.there 0).imp fun h => by omega) fun x => ?_
  · obtain ⟨v, hv⟩ := hk p hp
    obtain ⟨x, _, e, _⟩ := Maps.keyOf_i64 Try.underlying3 hv
    exact ⟨x, e⟩
  · rw [← hD, h.has x]
    exact live_mem st hlen x
theorem live_sort {ss : List Int} {st : DS} {l : List Int} (h1 : ss.Perm l) (h2 : st.live.Perm l) : ss.mergeSort (fun x y => decide (x ≤ y)) = st.live := by
  have tr : ∀ a b c : Int, leI a b = true → leI b c = true → leI a c = true := fun a b c h1 h2 => by simp only [leI, decide_eq_true_eq] at *; exact Int.le_trans h1 h2
  have to : ∀ a b : Int, (leI a b || leI b a) = true := fun a b => by simp only [leI, Bool.or_eq_true, decide_eq_true_eq]; exact Int.le_total a b
  refine List.Perm.eq_of_pairwise (le := fun a b => leI a b = true) (fun a b _ _ h1 h2 => ?_) (List.pairwise_mergeSort tr to ss) ((liveFrom_sorted st.there 0).imp fun h => ?_) (((List.mergeSort_perm ss leI).trans h1).trans h2.symm)
  · simp only [leI, decide_eq_true_eq] at h1 h2
    exact Int.le_antisymm h1 h2
  · simp only [leI, decide_eq_true_eq]; omega
set_option maxHeartbeats 4000000 in
theorem live_any (d : Nat) (S : List (Int × Int)) (st : DS) (tg : Nat → Nat) (X : DX) (w : World) (h : DRep w d S st tg X) (hlen : st.there.length = st.texts.length) (h64 : st.texts.length ≤ 64) :
    Calls Try.prog 37 #[.pointer (some ⟨d, 0, none⟩)] w (LivePost w st.live) := by
  have hown := h.own
  have hbl := hown.lt
  have hsz := hown.size_le
  have hmax : Maps.size X.D ≤ maxLen := by unfold maxLen; omega
  have hbytes : Maps.size X.D * 8 ≤ 140737488355328 := by omega
  have hpm := live_perm h hlen
  obtain ⟨c0, c1, c2, c3, c4, cF⟩ := cells5 h.disk
  refine (callsIn_wide (n := 6)).1 ?_
  have hseq : SeqGives Fence.wide 2 Try.prog 94 #[.pointer (some ⟨w.heap.size, 0, none⟩)] encZ (fun ss => ss.Perm (intKeys X.D)) (Maps.size X.D) (w.alloc (.cells #[.map (some X.m)] 78)) :=
    AnyZI.keys_gives (ρ := sh_keysI_ren) { sh_keysI with } Fence.wide _ trivial rfl (by omega) w.heap.size X.m st.texts.length X.D _ (by simp) (by simp) (by
      obtain ⟨es, clock, hb, Ft, hs, hD⟩ := hown
      exact ⟨es, clock, (Below.heap_alloc _ _ X.m hbl).trans hb, Ft, hs, hD⟩)
  have cK : ∀ mb W, CallsIn Fence.wide 5 Try.prog 68 #[.map mb] W fun e w' => e = .returned (.func (.func 94) #[] #[.pointer (some ⟨W.heap.size, 0, none⟩)]) ∧ w' = W.alloc (.cells #[.map mb] 78) := fun mb W => AnyZI.keys_in sh_keysI Fence.wide 5 trivial rfl mb W
  have cS := AnyZI.sorted_in sh_sortedI Fence.wide 5 trivial trivial trivial trivial rfl (by omega) (sh_sorts _) (enters_of Try.func93 (by kernel_rfl) rfl) 94 #[.pointer (some ⟨w.heap.size, 0, none⟩)] trivial (enters_of Try.func94 (by kernel_rfl) rfl) _ _ hmax hbytes _ hseq
  change CallsIn _ _ Try.prog 67 _ _ _ at cS
  have hfK : Fence.wide.fn 68 := trivial
  have hfS : Fence.wide.fn 67 := trivial
  have HPM := Lib.hid hpm
  clear h hown hseq hpm
  refine callsIn_of_wp Try.func37 rfl trivial ?_ rfl
  simp only [Try.ntmps37, List.size_toArray, List.length_cons, List.length_nil, Nat.reduceAdd, Nat.reduceSub, Array.replicate_succ, Array.replicate_zero, List.push_toArray, List.append_toArray, List.nil_append, List.cons_append]
  gi_wp2_with (first
    | (gi_at_call 68; refine (cK _ _).mono ?_; rintro e w' ⟨rfl, rfl⟩)
    | (gi_at_call 67; refine cS.mono ?_; rintro e w' ⟨v, ss, rfl, hS, hrow, hnil, hb⟩))
  go_ret
  obtain ⟨a, c, rfl, hat, _⟩ := at_of_own hrow
  rw [live_sort hS HPM.out] at hat
  have hl : ss.length = st.live.length := (hS.trans HPM.out.symm).length_eq
  rw [hl]
  exact ⟨a, c, rfl, hat, (Fr.of_below No ((Below.refl _ w).alloc (Nat.le_refl _) _)).trans (Fr.of_below No (hb.mono (by simp)))⟩
end Go.Proofs.Ytljldkknopmfhaa
