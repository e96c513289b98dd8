/- Files: the plain law. A disk as lists: what the program's disk, and the document's, do. Nothing of the program stands here. -/
import Derived.Test.YtljldkknopmfhaaBase
namespace Go.Proofs.Ytljldkknopmfhaa

/-- A disk: the texts of all files that were created, whether each is there, how many calls have counted, the last failure's number. -/
structure DS where
  texts : List (List UInt8)
  there : List Bool
  count : Nat
  id : Int
deriving Inhabited
def ds0 : DS := ⟨[], [], 0, 0⟩
/-- Does a script say that a call fails? -/
def hitM : List (Int × Int) → Nat → Option Int
  | [], _ => none
  | f :: S, c => if f.1 = c then some f.2 else hitM S c
theorem hitM_none : ∀ (S : List (Int × Int)) (c : Nat), (∀ i, (h : i < S.length) → (S[i]).1 ≠ c) → hitM S c = none
  | [], _, _ => rfl
  | f :: S, c, h => by
    have h0 := h 0 (by simp)
    simp only [List.getElem_cons_zero] at h0
    simp only [hitM, if_neg h0]
    exact hitM_none S c fun i hi => by have := h (i + 1) (by simpa using hi); simpa using this
theorem hitM_some : ∀ (S : List (Int × Int)) (c : Nat) (k : Nat) (hk : k < S.length), (S[k]).1 = c → (∀ i, (h : i < k) → (S[i]'(by omega)).1 ≠ c) → hitM S c = some (S[k]).2
  | f :: S, c, 0, _, h, _ => by simp only [List.getElem_cons_zero] at h ⊢; simp only [hitM, if_pos h]
  | f :: S, c, k + 1, hk, h, hn => by
    have h0 := hn 0 (by omega)
    simp only [List.getElem_cons_zero] at h0
    simp only [hitM, if_neg h0, List.getElem_cons_succ]
    refine hitM_some S c k (by simpa using hk) (by simpa using h) fun i hi => ?_
    have := hn (i + 1) (by omega); simpa using this
/-- A call counts: its error. -/
def countsM (S : List (Int × Int)) (st : DS) : DS × Int :=
  match hitM S st.count with
  | none => (⟨st.texts, st.there, st.count + 1, st.id⟩, 0)
  | some i => (⟨st.texts, st.there, st.count + 1, i⟩, 25)
def DS.is (st : DS) (no : Int) : Bool := decide (1 ≤ no ∧ no ≤ st.texts.length) && st.there.getD (no.toNat - 1) false
def DS.text (st : DS) (no : Int) : List UInt8 := st.texts.getD (no.toNat - 1) []
def createM (S : List (Int × Int)) (st : DS) : DS × Int × Int :=
  if st.texts.length = 64 then (st, 0, 17)
  else if (countsM S st).2 = 0 then (⟨st.texts ++ [[]], st.there ++ [true], st.count + 1, (countsM S st).1.id⟩, st.texts.length + 1, 0)
  else ((countsM S st).1, 0, 25)
def writeM (S : List (Int × Int)) (st : DS) (no : Int) (b : List UInt8) : DS × Int :=
  if st.is no = false ∨ b.length < 1 ∨ 1024 < b.length then (st, 1)
  else if (countsM S st).2 = 0 then (⟨st.texts.set (no.toNat - 1) (st.text no ++ b), st.there, st.count + 1, (countsM S st).1.id⟩, 0)
  else ((countsM S st).1, 25)
def readM (S : List (Int × Int)) (st : DS) (no at' most : Int) : DS × List UInt8 × Int :=
  if st.is no = false ∨ at' < 0 ∨ (st.text no).length < at' ∨ most < 1 then (st, [], 1)
  else if (countsM S st).2 = 0 then ((countsM S st).1, ((st.text no).drop at'.toNat).take most.toNat, 0)
  else ((countsM S st).1, [], 25)
def removeM (S : List (Int × Int)) (st : DS) (no : Int) : DS × Int :=
  if st.is no = false then (st, 1)
  else if (countsM S st).2 = 0 then (⟨st.texts, st.there.set (no.toNat - 1) false, st.count + 1, (countsM S st).1.id⟩, 0)
  else ((countsM S st).1, 25)
/-- The numbers of the files that are there, from k on. -/
def liveFrom : List Bool → Nat → List Int
  | [], _ => []
  | b :: l, k => if b then (k + 1 : Int) :: liveFrom l (k + 1) else liveFrom l (k + 1)
def DS.live (st : DS) : List Int := liveFrom st.there 0

theorem countsM_cases (S : List (Int × Int)) (st : DS) :
    (hitM S st.count = none ∧ countsM S st = (⟨st.texts, st.there, st.count + 1, st.id⟩, 0)) ∨ ∃ i, hitM S st.count = some i ∧ countsM S st = (⟨st.texts, st.there, st.count + 1, i⟩, 25) := by
  unfold countsM
  cases h : hitM S st.count with
  | none => exact .inl ⟨rfl, rfl⟩
  | some i => exact .inr ⟨i, rfl, rfl⟩

theorem liveFrom_gt : ∀ (l : List Bool) (k : Nat), ∀ x ∈ liveFrom l k, (k : Int) < x
  | [], _, x, h => by simp [liveFrom] at h
  | b :: l, k, x, h => by
    have ih := liveFrom_gt l (k + 1)
    unfold liveFrom at h
    split at h
    · rcases List.mem_cons.1 h with rfl | h
      · omega
      · have := ih x h; omega
    · have := ih x h; omega
theorem liveFrom_sorted : ∀ (l : List Bool) (k : Nat), (liveFrom l k).Pairwise (fun x y => x < y)
  | [], _ => by simp [liveFrom]
  | b :: l, k => by
    have ih := liveFrom_sorted l (k + 1)
    unfold liveFrom
    split
    · refine List.pairwise_cons.2 ⟨fun x hx => ?_, ih⟩
      have := liveFrom_gt l (k + 1) x hx; omega
    · exact ih
theorem liveFrom_mem : ∀ (l : List Bool) (k : Nat) (x : Int), x ∈ liveFrom l k ↔ (k : Int) < x ∧ x ≤ k + l.length ∧ l.getD (x.toNat - 1 - k) false = true
  | [], k, x => by simp [liveFrom]
  | b :: l, k, x => by
    have ih := liveFrom_mem l (k + 1) x
    have step : (k : Int) + 1 < x → l.getD (x.toNat - 1 - (k + 1)) false = (b :: l).getD (x.toNat - 1 - k) false := by
      intro h
      rw [show x.toNat - 1 - k = (x.toNat - 1 - (k + 1)) + 1 from by omega]
      simp
    have first : x = (k : Int) + 1 → (b :: l).getD (x.toNat - 1 - k) false = b := by
      intro h
      rw [show x.toNat - 1 - k = 0 from by omega]; simp
    unfold liveFrom
    by_cases h1 : x = (k : Int) + 1
    · have := first h1
      cases b
      · simp only [Bool.false_eq_true, if_false]
        rw [ih, this]; simp; omega
      · simp only [if_true]
        rw [this]; simp [h1]; omega
    · have hm : (x ∈ (if b = true then ((k : Int) + 1) :: liveFrom l (k + 1) else liveFrom l (k + 1))) ↔ x ∈ liveFrom l (k + 1) := by
        split
        · simp [h1]
        · exact Iff.rfl
      rw [hm, ih]
      by_cases h2 : (k : Int) + 1 < x
      · rw [step h2, List.length_cons]
        constructor
        · rintro ⟨a, c, e⟩; exact ⟨by omega, by omega, e⟩
        · rintro ⟨a, c, e⟩; exact ⟨by omega, by omega, e⟩
      · constructor
        · intro h; exfalso; have := h.1; omega
        · intro h; exfalso; have := h.1; omega
theorem live_mem (st : DS) (hl : st.there.length = st.texts.length) (x : Int) : x ∈ st.live ↔ st.is x = true := by
  unfold DS.live DS.is
  rw [liveFrom_mem]
  simp only [Bool.and_eq_true, decide_eq_true_eq, Nat.sub_zero]
  rw [hl]
  constructor
  · rintro ⟨h1, h2, h3⟩; exact ⟨⟨by omega, by omega⟩, h3⟩
  · rintro ⟨⟨h1, h2⟩, h3⟩; exact ⟨by omega, by omega, h3⟩

/-- What is true of each disk that a script of calls brings about: of n calls. -/
structure Fine (st : DS) (n : Nat) : Prop where
  len : st.there.length = st.texts.length
  most : st.texts.length ≤ 64
  count : st.count ≤ 2 * n
  size : ∀ t ∈ st.texts, t.length ≤ 1024 * n
theorem fine0 : Fine ds0 0 := ⟨rfl, by simp [ds0], by simp [ds0], by simp [ds0]⟩
theorem Fine.mono {st : DS} {n m : Nat} (h : Fine st n) (hm : n ≤ m) : Fine st m :=
  ⟨h.len, h.most, by have := h.count; omega, fun t ht => by have := h.size t ht; omega⟩
theorem Fine.text {st : DS} {n : Nat} (h : Fine st n) (no : Int) : (st.text no).length ≤ 1024 * n := by
  unfold DS.text
  rw [List.getD_eq_getElem?_getD]
  cases hx : st.texts[no.toNat - 1]? with
  | none => simp
  | some t => exact h.size t (List.mem_of_getElem? hx)
theorem fine_counts {S : List (Int × Int)} {st : DS} {n : Nat} (h : Fine st n) (hc : st.count + 1 ≤ 2 * (n + 1)) : Fine (countsM S st).1 (n + 1) := by
  rcases countsM_cases S st with ⟨_, e⟩ | ⟨i, _, e⟩ <;> rw [e] <;> exact ⟨h.len, h.most, hc, fun t ht => by have := h.size t ht; omega⟩
theorem fine_create {S : List (Int × Int)} {st : DS} {n : Nat} (h : Fine st n) : Fine (createM S st).1 (n + 1) := by
  have hc : st.count + 1 ≤ 2 * (n + 1) := by have := h.count; omega
  unfold createM
  split
  · exact h.mono (by omega)
  · split
    · rename_i h64 _
      refine ⟨by simp [h.len], ?_, hc, fun t ht => ?_⟩
      · have := h.most; simp; omega
      · rcases List.mem_append.1 ht with ht | ht
        · have := h.size t ht; omega
        · simp at ht; subst ht; simp
    · exact fine_counts h hc
theorem fine_write {S : List (Int × Int)} {st : DS} {n : Nat} (h : Fine st n) (no : Int) (b : List UInt8) : Fine (writeM S st no b).1 (n + 1) := by
  have hc : st.count + 1 ≤ 2 * (n + 1) := by have := h.count; omega
  unfold writeM
  split
  · exact h.mono (by omega)
  · split
    · rename_i h0 _
      refine ⟨by simp [h.len], by simpa using h.most, hc, fun t ht => ?_⟩
      have hb : b.length ≤ 1024 := by
        refine Nat.le_of_not_lt fun hx => h0 (.inr (.inr hx))
      rcases List.mem_or_eq_of_mem_set ht with ht | rfl
      · have := h.size t ht; omega
      · have := h.text no; simp; omega
    · exact fine_counts h hc
theorem fine_remove {S : List (Int × Int)} {st : DS} {n : Nat} (h : Fine st n) (no : Int) : Fine (removeM S st no).1 (n + 1) := by
  have hc : st.count + 1 ≤ 2 * (n + 1) := by have := h.count; omega
  unfold removeM
  split
  · exact h.mono (by omega)
  · split
    · exact ⟨by simp [h.len], h.most, hc, fun t ht => by have := h.size t ht; omega⟩
    · exact fine_counts h hc
/-- Two reads, one behind the other. -/
theorem fine_read2 {S : List (Int × Int)} {st : DS} {n : Nat} (h : Fine st n) (no a m no' a' m' : Int) : Fine (readM S (readM S st no a m).1 no' a' m').1 (n + 1) := by
  have key : ∀ (s : DS) (no a m : Int), (readM S s no a m).1 = s ∨ (readM S s no a m).1 = (countsM S s).1 := by
    intro s no a m
    unfold readM
    split
    · exact .inl rfl
    · split
      · exact .inr rfl
      · exact .inr rfl
  have cnt : ∀ s : DS, (countsM S s).1.count = s.count + 1 ∧ (countsM S s).1.texts = s.texts ∧ (countsM S s).1.there = s.there := by
    intro s
    rcases countsM_cases S s with ⟨_, e⟩ | ⟨i, _, e⟩ <;> rw [e] <;> exact ⟨rfl, rfl, rfl⟩
  have hc := h.count
  have hs : ∀ t ∈ st.texts, t.length ≤ 1024 * (n + 1) := fun t ht => by have := h.size t ht; omega
  rcases key st no a m with e1 | e1 <;> rw [e1]
  · rcases key st no' a' m' with e2 | e2 <;> rw [e2]
    · exact h.mono (by omega)
    · exact fine_counts h (by omega)
  · obtain ⟨c1, c2, c3⟩ := cnt st
    rcases key (countsM S st).1 no' a' m' with e2 | e2 <;> rw [e2]
    · exact fine_counts h (by omega)
    · obtain ⟨d1, d2, d3⟩ := cnt (countsM S st).1
      exact ⟨by rw [d2, d3, c2, c3]; exact h.len, by rw [d2, c2]; exact h.most, by omega, by rw [d2, c2]; exact hs⟩
end Go.Proofs.Ytljldkknopmfhaa
