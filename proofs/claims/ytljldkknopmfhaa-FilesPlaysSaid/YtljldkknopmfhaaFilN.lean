/- Files: what is written stands. Plain. -/
import Derived.Test.YtljldkknopmfhaaFilM
namespace Go.Proofs.Ytljldkknopmfhaa

/-- The text of a file by its number; none for 0. -/
def txtAt (st : DS) (j : Nat) : List UInt8 := if j = 0 then [] else st.text j
def txtCells (st : DS) : List Value := (List.range 66).map fun j => sv (txtAt st j)
theorem txtCells_len (st : DS) : (txtCells st).length = 66 := by simp [txtCells]
theorem txtCells_get (st : DS) {j : Nat} (hj : j < 66) : (txtCells st)[j]? = some (sv (txtAt st j)) := by simp [txtCells, hj]
theorem txt0 : txtCells ds0 = List.replicate 66 (sv []) := by
  apply List.ext_getElem
  · simp [txtCells]
  · intro i h1 h2
    simp only [txtCells, List.getElem_map, List.getElem_range, List.getElem_replicate]
    unfold txtAt DS.text ds0
    split <;> simp
theorem txt_is {st : DS} {no : Int} (h : st.is no = true) : ∃ k : Nat, no = k ∧ 1 ≤ k ∧ k ≤ st.texts.length := by
  unfold DS.is at h
  simp only [Bool.and_eq_true, decide_eq_true_eq] at h
  exact ⟨no.toNat, by omega, by omega, by omega⟩
theorem txt_counts (S : List (Int × Int)) (st : DS) (j : Nat) : txtAt (countsM S st).1 j = txtAt st j := by
  rcases countsM_cases S st with ⟨_, e⟩ | ⟨i, _, e⟩ <;> rw [e] <;> rfl
theorem txt_create (S : List (Int × Int)) (st : DS) : (createM S st).1.texts = st.texts ∨ (createM S st).1.texts = st.texts ++ [[]] := by
  unfold createM
  split
  · exact .inl rfl
  · split
    · exact .inr rfl
    · rcases countsM_cases S st with ⟨_, e⟩ | ⟨i, _, e⟩ <;> rw [e] <;> exact .inl rfl
theorem txtAt_of {st st' : DS} (h : st'.texts = st.texts ∨ st'.texts = st.texts ++ [[]]) (j : Nat) : txtAt st' j = txtAt st j := by
  unfold txtAt DS.text
  split
  · rfl
  · rcases h with h | h <;> rw [h]
    rw [List.getD_eq_getElem?_getD, List.getD_eq_getElem?_getD, List.getElem?_append]
    split
    · rfl
    · rename_i hj
      have e : st.texts[(j : Int).toNat - 1]? = none := List.getElem?_eq_none (by omega)
      rw [e]
      cases hq : ([[]] : List (List UInt8))[((j : Int).toNat - 1) - st.texts.length]? with
      | none => rfl
      | some t =>
        have := List.mem_of_getElem? hq
        simp at this; subst this; rfl
theorem cells_of {st st' : DS} (h : ∀ j, j < 66 → txtAt st' j = txtAt st j) : txtCells st' = txtCells st := by
  unfold txtCells
  refine List.map_congr_left fun j hj => ?_
  rw [h j (List.mem_range.1 hj)]
theorem cells_create (S : List (Int × Int)) (st : DS) : txtCells (createM S st).1 = txtCells st := cells_of fun j _ => txtAt_of (txt_create S st) j
theorem cells_remove (S : List (Int × Int)) (st : DS) (no : Int) : txtCells (removeM S st no).1 = txtCells st := by
  refine cells_of fun j _ => txtAt_of (.inl ?_) j
  unfold removeM
  split
  · rfl
  · split
    · rfl
    · rcases countsM_cases S st with ⟨_, e⟩ | ⟨i, _, e⟩ <;> rw [e]
theorem cells_read (S : List (Int × Int)) (st : DS) (no po mo : Int) : txtCells (readM S st no po mo).1 = txtCells st := by
  refine cells_of fun j _ => txtAt_of (.inl ?_) j
  unfold readM
  split
  · rfl
  · split <;> (rcases countsM_cases S st with ⟨_, e⟩ | ⟨i, _, e⟩ <;> rw [e])
theorem create_ok {S : List (Int × Int)} {st : DS} (hm : st.texts.length ≤ 64) (h : (createM S st).2.2 = 0) : ∃ k : Nat, (createM S st).2.1 = k ∧ 1 ≤ k ∧ k ≤ 64 ∧ txtAt st k = [] := by
  unfold createM at h ⊢
  split at h
  · cases h
  · rename_i h1
    split at h
    · rename_i h2
      rw [if_neg h1, if_pos h2]
      refine ⟨st.texts.length + 1, rfl, by omega, by omega, ?_⟩
      unfold txtAt DS.text
      rw [if_neg (by omega), List.getD_eq_getElem?_getD, List.getElem?_eq_none (by omega)]; rfl
    · cases h
theorem write_ok {S : List (Int × Int)} {st : DS} {no : Int} {b : List UInt8} (hm : st.texts.length ≤ 64) (h : (writeM S st no b).2 = 0) :
    ∃ k : Nat, no = k ∧ 1 ≤ k ∧ k ≤ 64 ∧ txtCells (writeM S st no b).1 = (txtCells st).set k (sv (txtAt st k ++ b)) := by
  unfold writeM at h ⊢
  split at h
  · cases h
  · rename_i h1
    split at h
    · rename_i h2
      rw [if_neg h1, if_pos h2]
      have hi : st.is no = true := by
        cases hx : st.is no with
        | true => rfl
        | false => exact absurd (.inl hx) h1
      obtain ⟨k, rfl, k1, k2⟩ := txt_is hi
      refine ⟨k, rfl, k1, by omega, ?_⟩
      apply List.ext_getElem
      · simp [txtCells]
      · intro i hi1 hi2
        rw [List.getElem_set]
        simp only [txtCells, List.getElem_map, List.getElem_range, Int.toNat_natCast]
        split
        · rename_i e; subst e
          unfold txtAt DS.text
          rw [if_neg (by omega), if_neg (by omega), List.getD_eq_getElem?_getD]
          simp only [Int.toNat_natCast]
          rw [List.getElem?_set_self (by omega)]; rfl
        · rename_i e
          unfold txtAt DS.text
          split
          · rfl
          · rw [List.getD_eq_getElem?_getD]
            simp only [Int.toNat_natCast]
            rw [List.getElem?_set_ne (by omega), List.getD_eq_getElem?_getD]
    · cases h
theorem write_no {S : List (Int × Int)} {st : DS} {no : Int} {b : List UInt8} (h : (writeM S st no b).2 ≠ 0) : txtCells (writeM S st no b).1 = txtCells st := by
  refine cells_of fun j _ => txtAt_of (.inl ?_) j
  unfold writeM at h ⊢
  split at h
  · rename_i h1; rw [if_pos h1]
  · rename_i h1
    split at h
    · exact absurd rfl h
    · rename_i h2
      rw [if_neg h1, if_neg h2]
      rcases countsM_cases S st with ⟨_, e⟩ | ⟨i, _, e⟩ <;> rw [e]
theorem read_ok {S : List (Int × Int)} {st : DS} {no po mo : Int} (hm : st.texts.length ≤ 64) (h : (readM S st no po mo).2.2 = 0) :
    ∃ k p q : Nat, no = k ∧ k ≤ 64 ∧ po = p ∧ p ≤ (txtAt st k).length ∧ (q : Int) ≤ mo ∧ (mo = 1000000 → p = 0 → (txtAt st k).length ≤ 1000000 → q = (txtAt st k).length) ∧ p + q ≤ (txtAt st k).length ∧ (readM S st no po mo).2.1 = ((txtAt st k).drop p).take q ∧ (readM S st no po mo).2.1.length = q := by
  unfold readM at h ⊢
  split at h
  · cases h
  · rename_i h1
    split at h
    · rename_i h2
      rw [if_neg h1, if_pos h2]
      have hi : st.is no = true := by
        cases hx : st.is no with
        | true => rfl
        | false => exact absurd (.inl hx) h1
      obtain ⟨k, rfl, k1, k2⟩ := txt_is hi
      have e : txtAt st k = st.text k := by unfold txtAt; rw [if_neg (by omega)]
      have h3 : ¬ (po < 0 ∨ ((st.text k).length : Int) < po ∨ mo < 1) := fun x => h1 (.inr x)
      refine ⟨k, po.toNat, min mo.toNat ((st.text k).length - po.toNat), rfl, by omega, by omega, by rw [e]; omega, by omega, fun e1 e2 e3 => ?_, by rw [e]; omega, ?_, ?_⟩
      · rw [e] at e3 ⊢; omega
      · rw [e]
        apply List.ext_getElem?
        intro z
        rw [List.getElem?_take, List.getElem?_take]
        by_cases hz : z < min mo.toNat ((st.text k).length - po.toNat)
        · rw [if_pos hz, if_pos (by omega)]
        · rw [if_neg hz]
          split
          · rw [List.getElem?_eq_none (by simp; omega)]
          · rfl
      · rw [List.length_take, List.length_drop]
    · cases h
theorem fine_read1 {S : List (Int × Int)} {st : DS} {n : Nat} (h : Fine st n) (no po mo : Int) : (readM S st no po mo).1.there.length = (readM S st no po mo).1.texts.length ∧ (readM S st no po mo).1.texts.length ≤ 64 ∧ (readM S st no po mo).1.count ≤ 2 * n + 1 ∧ ∀ q, ((readM S st no po mo).1.text q).length ≤ 1024 * n := by
  have key : (readM S st no po mo).1.texts = st.texts ∧ (readM S st no po mo).1.there = st.there ∧ (readM S st no po mo).1.count ≤ st.count + 1 := by
    unfold readM
    split
    · exact ⟨rfl, rfl, by simp⟩
    · split <;> (rcases countsM_cases S st with ⟨_, e⟩ | ⟨i, _, e⟩ <;> rw [e] <;> exact ⟨rfl, rfl, Nat.le_refl _⟩)
  obtain ⟨e1, e2, e3⟩ := key
  have := h.count
  refine ⟨by rw [e1, e2]; exact h.len, by rw [e1]; exact h.most, by omega, fun q => ?_⟩
  have : (readM S st no po mo).1.text q = st.text q := by unfold DS.text; rw [e1]
  rw [this]; exact h.text q
end Go.Proofs.Ytljldkknopmfhaa
