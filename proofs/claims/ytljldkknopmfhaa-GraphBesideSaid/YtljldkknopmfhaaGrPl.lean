
/- Graphs: the plain law. What a graph is, where it may not be, its order. Nothing of the program stands here. -/
import Derived.Test.YtljldkknopmfhaaParM
namespace Go.Proofs.Ytljldkknopmfhaa

/-- A stage's parameters. -/
structure Stg where
  k : Int
  n : Int
  A : List UInt8
  B : List UInt8
/-- A duct. -/
structure Dct where
  frm : Int
  out : Int
  to : Int
  inn : Int
  cap : Int
deriving DecidableEq
instance : Inhabited Stg := ⟨⟨0, 0, [], []⟩⟩
instance : Inhabited Dct := ⟨⟨0, 0, 0, 0, 0⟩⟩
structure Gr where
  st : List Stg
  du : List Dct
def Gr.s (g : Gr) (i : Nat) : Stg := g.st.getD i default
def Gr.d (g : Gr) (i : Nat) : Dct := g.du.getD i default
def Stg.chk (s : Stg) : Int := chkR s.k s.n s.A s.B
def Stg.ins (s : Stg) : Int := insR s.k s.n s.A s.B
def Stg.outs (s : Stg) : Int := outsR s.k s.n s.A s.B

/-- The first place at which p holds, from k on; -1: there is none. -/
def idxFrom (p : Dct → Bool) : List Dct → Nat → Int
  | [], _ => -1
  | d :: l, k => if p d then k else idxFrom p l (k + 1)
theorem idxFrom_or (p : Dct → Bool) : ∀ (l : List Dct) (k : Nat), (idxFrom p l k = -1 ∧ ∀ d ∈ l, p d = false) ∨
    ∃ j, ∃ h : j < l.length, idxFrom p l k = ((k + j : Nat) : Int) ∧ p l[j] = true ∧ ∀ i (hi : i < j), p (l[i]'(by omega)) = false
  | [], k => .inl ⟨rfl, by simp⟩
  | d :: l, k => by
    cases hd : p d with
    | true => exact .inr ⟨0, by simp, by simp [idxFrom, hd], by simpa using hd, by simp⟩
    | false =>
      rcases idxFrom_or p l (k + 1) with ⟨h1, h2⟩ | ⟨j, hj, h1, h2, h3⟩
      · refine .inl ⟨by simp [idxFrom, hd, h1], fun x hx => ?_⟩
        rcases List.mem_cons.1 hx with rfl | hx
        · exact hd
        · exact h2 x hx
      · refine .inr ⟨j + 1, by simp; omega, ?_, by simpa using h2, fun i hi => ?_⟩
        · simp only [idxFrom, hd, h1, Bool.false_eq_true, if_false]; omega
        · cases i with
          | zero => simpa using hd
          | succ i => have := h3 i (by omega); simpa using this
theorem idxFrom_snoc (p : Dct → Bool) : ∀ (l : List Dct) (d : Dct) (k : Nat), idxFrom p (l ++ [d]) k = if idxFrom p l k = -1 then (if p d then ((k + l.length : Nat) : Int) else -1) else idxFrom p l k
  | [], d, k => by simp [idxFrom]
  | x :: l, d, k => by
    have ih := idxFrom_snoc p l d (k + 1)
    have e1 : idxFrom p (x :: (l ++ [d])) k = if p x = true then (k : Int) else idxFrom p (l ++ [d]) (k + 1) := rfl
    have e2 : idxFrom p (x :: l) k = if p x = true then (k : Int) else idxFrom p l (k + 1) := rfl
    by_cases hx : p x = true
    · rw [if_pos hx] at e1 e2
      rw [List.cons_append, e1, e2, if_neg (by omega)]
    · rw [if_neg hx] at e1 e2
      rw [List.cons_append, e1, e2, ih, List.length_cons, show k + 1 + l.length = k + (l.length + 1) from by omega]
def inP (i k : Int) (d : Dct) : Bool := decide (d.to = i ∧ d.inn = k)
def outP (i k : Int) (d : Dct) : Bool := decide (d.frm = i ∧ d.out = k)
/-- The duct at a stage's input; -1: there is none. -/
def inAt (l : List Dct) (i k : Int) : Int := idxFrom (inP i k) l 0
/-- The duct at a stage's output; -1: there is none. -/
def outAt (l : List Dct) (i k : Int) : Int := idxFrom (outP i k) l 0
theorem inAt_snoc (l : List Dct) (d : Dct) (i k : Int) : inAt (l ++ [d]) i k = if inAt l i k = -1 then (if inP i k d then (l.length : Int) else -1) else inAt l i k := by
  unfold inAt; rw [idxFrom_snoc]; simp
theorem outAt_snoc (l : List Dct) (d : Dct) (i k : Int) : outAt (l ++ [d]) i k = if outAt l i k = -1 then (if outP i k d then (l.length : Int) else -1) else outAt l i k := by
  unfold outAt; rw [idxFrom_snoc]; simp
theorem idx_range (p : Dct → Bool) (l : List Dct) : -1 ≤ idxFrom p l 0 ∧ idxFrom p l 0 < l.length := by
  rcases idxFrom_or p l 0 with ⟨h, _⟩ | ⟨j, hj, h, _⟩ <;> rw [h] <;> omega
theorem idx_none {p : Dct → Bool} {l : List Dct} : idxFrom p l 0 = -1 ↔ ∀ d ∈ l, p d = false := by
  constructor
  · intro h
    rcases idxFrom_or p l 0 with ⟨_, h2⟩ | ⟨j, hj, h2, _⟩
    · exact h2
    · rw [h2] at h; omega
  · intro h
    rcases idxFrom_or p l 0 with ⟨h1, _⟩ | ⟨j, hj, _, h2, _⟩
    · exact h1
    · rw [h _ (List.getElem_mem hj)] at h2; cases h2
/-- The only one. -/
theorem idx_one {p : Dct → Bool} {l : List Dct} {j : Nat} (hj : j < l.length) (hp : p l[j] = true) (hn : ∀ i (hi : i < j), p (l[i]'(by omega)) = false) : idxFrom p l 0 = j := by
  rcases idxFrom_or p l 0 with ⟨_, h2⟩ | ⟨q, hq, h1, h2, h3⟩
  · rw [h2 _ (List.getElem_mem hj)] at hp; cases hp
  · rw [h1]
    rcases Nat.lt_trichotomy q j with h | h | h
    · rw [hn q h] at h2; cases h2
    · subst h; simp
    · rw [h3 j h] at hp; cases hp

def portB (n ports : Int) : Bool := decide (0 ≤ n ∧ n < ports)
/-- May a duct be, behind those ahead of it? -/
def Gr.fits (g : Gr) (j : Nat) : Bool :=
  portB (g.d j).frm g.st.length && portB (g.d j).to g.st.length && portB (g.d j).out (g.s (g.d j).frm.toNat).outs && portB (g.d j).inn (g.s (g.d j).to.toNat).ins &&
    decide (outAt (g.du.take j) (g.d j).frm (g.d j).out = -1) && decide (inAt (g.du.take j) (g.d j).to (g.d j).inn = -1)
/-- The edges. -/
def Gr.Edge (g : Gr) (a b : Nat) : Prop := ∃ d ∈ g.du, d.frm = a ∧ d.to = b
inductive Gr.Reach (g : Gr) : Nat → Nat → Prop
  | one {a b : Nat} (h : g.Edge a b) : Gr.Reach g a b
  | more {a b c : Nat} (h : Gr.Reach g a b) (k : g.Edge b c) : Gr.Reach g a c
theorem Gr.Reach.trans {g : Gr} {a b c : Nat} (h : g.Reach a b) (k : g.Reach b c) : g.Reach a c := by
  induction k with
  | one e => exact .more h e
  | more _ e ih => exact .more ih e

def Gr.stBad (g : Gr) (i : Nat) : Int := (g.s i).chk
def Gr.duBad (g : Gr) (j : Nat) : Int := if g.fits j = false then 14 else if (g.d j).cap < 1 ∨ 8 < (g.d j).cap then 16 else 0
/-- Has a stage a port without a duct? -/
def Gr.dang (g : Gr) (i : Nat) : Prop := (∃ k : Nat, (k : Int) < (g.s i).ins ∧ inAt g.du i k = -1) ∨ (∃ k : Nat, (k : Int) < (g.s i).outs ∧ outAt g.du i k = -1)
open Classical in
noncomputable def Gr.daBad (g : Gr) (i : Nat) : Int := if g.dang i then 13 else 0
open Classical in
noncomputable def Gr.cyBad (g : Gr) (i : Nat) : Int := if g.Reach i i then 15 else 0

/-- The first i from k on, m of them, of which f is not 0. -/
def firstBad (f : Nat → Int) : Nat → Nat → Option (Int × Int)
  | _, 0 => none
  | k, m + 1 => if f k = 0 then firstBad f (k + 1) m else some (k, f k)
theorem firstBad_none (f : Nat → Int) : ∀ (m k : Nat), (∀ i, k ≤ i → i < k + m → f i = 0) → firstBad f k m = none
  | 0, _, _ => rfl
  | m + 1, k, h => by
    simp only [firstBad, if_pos (h k (by omega) (by omega))]
    exact firstBad_none f m (k + 1) fun i h1 h2 => h i (by omega) (by omega)
theorem firstBad_some (f : Nat → Int) : ∀ (m k i : Nat), k ≤ i → i < k + m → f i ≠ 0 → (∀ j, k ≤ j → j < i → f j = 0) → firstBad f k m = some ((i : Int), f i)
  | 0, k, i, h1, h2, _, _ => by omega
  | m + 1, k, i, h1, h2, h3, h4 => by
    by_cases hk : k = i
    · subst hk
      simp only [firstBad, if_neg h3]
    · simp only [firstBad, if_pos (h4 k (by omega) (by omega))]
      exact firstBad_some f m (k + 1) i (by omega) (by omega) h3 fun j h5 h6 => h4 j (by omega) h6
theorem firstBad_or (f : Nat → Int) : ∀ (m k : Nat), (firstBad f k m = none ∧ ∀ i, k ≤ i → i < k + m → f i = 0) ∨ ∃ i, k ≤ i ∧ i < k + m ∧ f i ≠ 0 ∧ firstBad f k m = some ((i : Int), f i) ∧ ∀ j, k ≤ j → j < i → f j = 0
  | 0, k => .inl ⟨rfl, fun i h1 h2 => by omega⟩
  | m + 1, k => by
    by_cases h : f k = 0
    · rcases firstBad_or f m (k + 1) with ⟨h1, h2⟩ | ⟨i, h1, h2, h3, h4, h5⟩
      · refine .inl ⟨by simp only [firstBad, if_pos h]; exact h1, fun i h3 h4 => ?_⟩
        by_cases hk : k = i
        · subst hk; exact h
        · exact h2 i (by omega) (by omega)
      · refine .inr ⟨i, by omega, by omega, h3, by simp only [firstBad, if_pos h]; exact h4, fun j h6 h7 => ?_⟩
        by_cases hk : k = j
        · subst hk; exact h
        · exact h5 j (by omega) h7
    · exact .inr ⟨k, by omega, by omega, h, by simp only [firstBad, if_neg h], fun j h1 h2 => by omega⟩

/-- Where a graph may not be before its ways are looked at. -/
noncomputable def Gr.laidAt (g : Gr) : Option (Int × Int) :=
  if 16 < g.st.length ∨ 64 < g.du.length then some (0, 17)
  else ((firstBad g.stBad 0 g.st.length).orElse fun _ => firstBad g.duBad 0 g.du.length).orElse fun _ => firstBad g.daBad 0 g.st.length
/-- Where a graph may not be, and why. -/
noncomputable def Gr.check (g : Gr) : Int × Int := (g.laidAt.orElse fun _ => firstBad g.cyBad 0 g.st.length).getD (0, 0)

/-- Of a graph whose ports are all laid. -/
structure Gr.Laid (g : Gr) : Prop where
  ns : g.st.length ≤ 16
  nd : g.du.length ≤ 64
  st : ∀ i, i < g.st.length → g.stBad i = 0
  du : ∀ j, j < g.du.length → g.duBad j = 0
  da : ∀ i, i < g.st.length → ¬ g.dang i
theorem daBad_zero (g : Gr) (i : Nat) : g.daBad i = 0 ↔ ¬ g.dang i := by
  unfold Gr.daBad; split <;> simp_all
theorem cyBad_zero (g : Gr) (i : Nat) : g.cyBad i = 0 ↔ ¬ g.Reach i i := by
  unfold Gr.cyBad; split <;> simp_all
theorem laid_iff (g : Gr) : g.laidAt = none ↔ g.Laid := by
  unfold Gr.laidAt
  constructor
  · intro h
    split at h
    · cases h
    · rename_i h0
      rcases firstBad_or g.stBad g.st.length 0 with ⟨e1, f1⟩ | ⟨i, _, _, _, e1, _⟩
      · rcases firstBad_or g.duBad g.du.length 0 with ⟨e2, f2⟩ | ⟨i, _, _, _, e2, _⟩
        · rcases firstBad_or g.daBad g.st.length 0 with ⟨e3, f3⟩ | ⟨i, _, _, _, e3, _⟩
          · exact ⟨by omega, by omega, fun i hi => f1 i (by omega) (by omega), fun i hi => f2 i (by omega) (by omega), fun i hi => (daBad_zero g i).1 (f3 i (by omega) (by omega))⟩
          · rw [e1, e2, e3] at h; cases h
        · rw [e1, e2] at h; cases h
      · rw [e1] at h; cases h
  · intro h
    rw [if_neg (by have := h.ns; have := h.nd; omega)]
    rw [firstBad_none _ _ _ fun i _ hi => h.st i (by omega), firstBad_none _ _ _ fun i _ hi => h.du i (by omega), firstBad_none _ _ _ fun i _ hi => (daBad_zero g i).2 (h.da i (by omega))]
    rfl
/-- A graph that may be. -/
structure Gr.Whole (g : Gr) : Prop extends g.Laid where
  cy : ∀ i, i < g.st.length → ¬ g.Reach i i
theorem laidAt_ne {g : Gr} {x : Int × Int} (h : g.laidAt = some x) : x.2 ≠ 0 := by
  unfold Gr.laidAt at h
  split at h
  · cases h; decide
  · rcases firstBad_or g.stBad g.st.length 0 with ⟨e1, _⟩ | ⟨i, _, _, n1, e1, _⟩
    · rcases firstBad_or g.duBad g.du.length 0 with ⟨e2, _⟩ | ⟨i, _, _, n2, e2, _⟩
      · rcases firstBad_or g.daBad g.st.length 0 with ⟨e3, _⟩ | ⟨i, _, _, n3, e3, _⟩
        · rw [e1, e2, e3] at h; cases h
        · rw [e1, e2, e3] at h; cases h; exact n3
      · rw [e1, e2] at h; cases h; exact n2
    · rw [e1] at h; cases h; exact n1
theorem check_ok (g : Gr) : (g.check).2 = 0 ↔ g.Whole := by
  unfold Gr.check
  cases hl : g.laidAt with
  | some x =>
    have hx := laidAt_ne hl
    constructor
    · intro h; exact absurd h hx
    · intro h; rw [(laid_iff g).2 h.toLaid] at hl; cases hl
  | none =>
    have hL := (laid_iff g).1 hl
    rcases firstBad_or g.cyBad g.st.length 0 with ⟨e, f⟩ | ⟨i, _, hi, n, e, _⟩
    · rw [e]
      exact ⟨fun _ => ⟨hL, fun i hi => (cyBad_zero g i).1 (f i (by omega) (by omega))⟩, fun _ => rfl⟩
    · rw [e]
      constructor
      · intro h; exact absurd h n
      · intro h; exact absurd ((cyBad_zero g i).2 (h.cy i (by omega))) n
theorem check_whole {g : Gr} (h : g.Whole) : g.check = (0, 0) := by
  unfold Gr.check
  rw [(laid_iff g).2 h.toLaid, firstBad_none _ _ _ fun i _ hi => (cyBad_zero g i).2 (h.cy i (by omega))]
  rfl
theorem fits_iff {g : Gr} {j : Nat} : g.fits j = true ↔ (0 ≤ (g.d j).frm ∧ (g.d j).frm < g.st.length) ∧ (0 ≤ (g.d j).to ∧ (g.d j).to < g.st.length) ∧ (0 ≤ (g.d j).out ∧ (g.d j).out < (g.s (g.d j).frm.toNat).outs) ∧
    (0 ≤ (g.d j).inn ∧ (g.d j).inn < (g.s (g.d j).to.toNat).ins) ∧ outAt (g.du.take j) (g.d j).frm (g.d j).out = -1 ∧ inAt (g.du.take j) (g.d j).to (g.d j).inn = -1 := by
  unfold Gr.fits portB
  simp only [Bool.and_eq_true, decide_eq_true_eq, and_assoc]
theorem duBad_fits {g : Gr} {j : Nat} (h : g.duBad j = 0) : g.fits j = true ∧ 1 ≤ (g.d j).cap ∧ (g.d j).cap ≤ 8 := by
  unfold Gr.duBad at h
  split at h
  · cases h
  · rename_i h0
    split at h
    · cases h
    · exact ⟨by simpa using h0, by omega, by omega⟩
theorem d_mem {g : Gr} {j : Nat} (h : j < g.du.length) : g.d j = g.du[j] := by
  simp [Gr.d, List.getD_eq_getElem?_getD, h]
theorem Gr.Laid.ends {g : Gr} (h : g.Laid) : ∀ d ∈ g.du, (0 ≤ d.frm ∧ d.frm < g.st.length) ∧ (0 ≤ d.to ∧ d.to < g.st.length) := by
  intro d hd
  obtain ⟨j, hj, rfl⟩ := List.getElem_of_mem hd
  have := fits_iff.1 (duBad_fits (h.du j hj)).1
  rw [d_mem hj] at this
  exact ⟨this.1, this.2.1⟩
end Go.Proofs.Ytljldkknopmfhaa

/- Graphs: their order, the ways, how many ports. Plainly. -/
namespace Go.Proofs.Ytljldkknopmfhaa

theorem countP_lt {p q : Nat → Bool} : ∀ {l : List Nat} {x : Nat}, (∀ y ∈ l, p y = true → q y = true) → x ∈ l → q x = true → p x = false → l.countP p < l.countP q
  | [], _, _, h, _, _ => by simp at h
  | y :: l, x, h, hx, hq, hp => by
    have hle : l.countP p ≤ l.countP q := List.countP_mono_left fun z hz => h z (List.mem_cons_of_mem _ hz)
    rcases List.mem_cons.1 hx with rfl | hx
    · rw [List.countP_cons, List.countP_cons, if_pos hq, if_neg (by simp [hp])]; omega
    · have ih := countP_lt (fun z hz => h z (List.mem_cons_of_mem _ hz)) hx hq hp
      rw [List.countP_cons, List.countP_cons]
      have := h y (List.mem_cons_self ..)
      cases hpy : p y with
      | false => simp only [Bool.false_eq_true, if_false]; split <;> omega
      | true => rw [this hpy]; simp; exact ih
theorem all_in : ∀ (n : Nat) (l : List Nat), (∀ i, i < n → i ∈ l) → n ≤ l.length
  | 0, _, _ => Nat.zero_le _
  | n + 1, l, h => by
    have hn : n ∈ l := h n (by omega)
    have ih := all_in n (l.erase n) fun i hi => (List.mem_erase_of_ne (by omega)).2 (h i (by omega))
    have := List.length_erase_of_mem hn
    have := List.length_pos_of_mem hn
    omega
theorem all_below : ∀ (n : Nat) (l : List Nat), l.Nodup → (∀ i ∈ l, i < n) → l.length ≤ n
  | 0, l, _, h => by
    cases l with
    | nil => simp
    | cons x l => have := h x (List.mem_cons_self ..); omega
  | n + 1, l, hl, h => by
    have ih := all_below n (l.erase n) (hl.erase n) fun i hi => by
      have h1 := h i (List.mem_of_mem_erase hi)
      have h2 : i ≠ n := by
        intro e; subst e
        exact absurd hi (List.Nodup.not_mem_erase hl)
      omega
    by_cases hn : n ∈ l
    · have := List.length_erase_of_mem hn; omega
    · rw [List.erase_of_not_mem hn] at ih; omega

/-- The first i from k on, m of them, of which p holds. -/
def firstOf (p : Nat → Bool) : Nat → Nat → Option Nat
  | _, 0 => none
  | k, m + 1 => if p k then some k else firstOf p (k + 1) m
theorem firstOf_some (p : Nat → Bool) : ∀ (m k i : Nat), k ≤ i → i < k + m → p i = true → (∀ j, k ≤ j → j < i → p j = false) → firstOf p k m = some i
  | 0, k, i, h1, h2, _, _ => by omega
  | m + 1, k, i, h1, h2, h3, h4 => by
    by_cases hk : k = i
    · subst hk; simp [firstOf, h3]
    · simp only [firstOf, h4 k (by omega) (by omega), Bool.false_eq_true, if_false]
      exact firstOf_some p m (k + 1) i (by omega) (by omega) h3 fun j h5 h6 => h4 j (by omega) h6
theorem firstOf_or (p : Nat → Bool) : ∀ (m k : Nat), (firstOf p k m = none ∧ ∀ i, k ≤ i → i < k + m → p i = false) ∨ ∃ i, k ≤ i ∧ i < k + m ∧ p i = true ∧ firstOf p k m = some i ∧ ∀ j, k ≤ j → j < i → p j = false
  | 0, k => .inl ⟨rfl, fun i h1 h2 => by omega⟩
  | m + 1, k => by
    cases h : p k with
    | true => exact .inr ⟨k, by omega, by omega, h, by simp [firstOf, h], fun j h1 h2 => by omega⟩
    | false =>
      rcases firstOf_or p m (k + 1) with ⟨h1, h2⟩ | ⟨i, h1, h2, h3, h4, h5⟩
      · refine .inl ⟨by simp [firstOf, h, h1], fun i h3 h4 => ?_⟩
        by_cases hk : k = i
        · subst hk; exact h
        · exact h2 i (by omega) (by omega)
      · refine .inr ⟨i, by omega, by omega, h3, by simp [firstOf, h, h4], fun j h6 h7 => ?_⟩
        by_cases hk : k = j
        · subst hk; exact h
        · exact h5 j (by omega) h7
theorem firstOf_congr {p q : Nat → Bool} : ∀ {m k : Nat}, (∀ i, k ≤ i → i < k + m → p i = q i) → firstOf p k m = firstOf q k m
  | 0, _, _ => rfl
  | m + 1, k, h => by
    simp only [firstOf, h k (by omega) (by omega)]
    rw [firstOf_congr (p := p) (q := q) (m := m) (k := k + 1) fun i h1 h2 => h i (by omega) (by omega)]

/-- Is the source of a duct in a row? -/
def hasN (l : List Nat) (x : Int) : Bool := l.any fun s => decide ((s : Int) = x)
theorem hasN_iff {l : List Nat} {x : Int} : hasN l x = true ↔ ∃ s ∈ l, (s : Int) = x := by simp [hasN]
theorem hasN_nat {l : List Nat} {s : Nat} : hasN l s = true ↔ s ∈ l := by
  rw [hasN_iff]
  constructor
  · rintro ⟨x, hx, e⟩; obtain rfl : x = s := by omega
    exact hx
  · intro h; exact ⟨s, h, rfl⟩
/-- May a stage come next? -/
def Gr.cand (g : Gr) (l : List Nat) (i : Nat) : Bool := !hasN l i && g.du.all fun d => !decide (d.to = i) || hasN l d.frm
theorem cand_iff {g : Gr} {l : List Nat} {i : Nat} : g.cand l i = true ↔ i ∉ l ∧ ∀ d ∈ g.du, d.to = i → hasN l d.frm = true := by
  unfold Gr.cand
  rw [Bool.and_eq_true, Bool.not_eq_true', List.all_eq_true]
  have h1 : (hasN l (i : Int) = false) ↔ i ∉ l := by
    rw [← hasN_nat (l := l) (s := i)]; simp
  rw [h1]
  refine and_congr_right fun _ => forall_congr' fun d => imp_congr_right fun _ => ?_
  rw [Bool.or_eq_true, Bool.not_eq_true', decide_eq_false_iff_not]
  exact ⟨fun h e => h.resolve_left fun x => x e, fun h => by
    by_cases e : d.to = i
    · exact .inr (h e)
    · exact .inl e⟩
def Gr.orderN (g : Gr) : Nat → List Nat
  | 0 => []
  | m + 1 => g.orderN m ++ (firstOf (g.cand (g.orderN m)) 0 g.st.length).toList
def Gr.order (g : Gr) : List Nat := g.orderN g.st.length

open Classical in
noncomputable def Gr.anc (g : Gr) (i : Nat) : Nat := (List.range g.st.length).countP fun j => decide (g.Reach j i)
theorem anc_lt {g : Gr} (h : g.Whole) {s i : Nat} (hs : s < g.st.length) (he : g.Edge s i) : g.anc s < g.anc i := by
  classical
  refine countP_lt (x := s) (fun y _ hy => ?_) (List.mem_range.2 hs) ?_ ?_
  · rw [decide_eq_true_eq] at hy ⊢; exact .more hy he
  · rw [decide_eq_true_eq]; exact .one he
  · rw [decide_eq_false_iff_not]; exact h.cy s hs
theorem cand_ex {g : Gr} (h : g.Whole) (l : List Nat) : ∀ (c i : Nat), g.anc i ≤ c → i < g.st.length → i ∉ l → ∃ j, j < g.st.length ∧ g.cand l j = true
  | c, i, hc, hi, hl => by
    by_cases hk : g.cand l i = true
    · exact ⟨i, hi, hk⟩
    · rw [cand_iff] at hk
      have : ∃ d ∈ g.du, d.to = i ∧ hasN l d.frm = false := by
        refine Classical.byContradiction fun hx => hk ⟨hl, fun d hd e => ?_⟩
        cases hh : hasN l d.frm with
        | true => rfl
        | false => exact absurd ⟨d, hd, e, hh⟩ hx
      obtain ⟨d, hd, hto, hfr⟩ := this
      obtain ⟨⟨h1, h2⟩, h3⟩ := h.toLaid.ends d hd
      obtain ⟨s, hs⟩ : ∃ s : Nat, (s : Int) = d.frm := ⟨d.frm.toNat, by omega⟩
      have hsn : s < g.st.length := by omega
      have hlt := anc_lt h hsn ⟨d, hd, hs.symm, hto⟩
      have hsl : s ∉ l := by
        intro x; rw [← hs] at hfr; rw [hasN_nat.2 x] at hfr; cases hfr
      match c, hc with
      | 0, hc => omega
      | c + 1, hc => exact cand_ex h l c s (by omega) hsn hsl
structure OrderOk (g : Gr) (l : List Nat) (m : Nat) : Prop where
  len : l.length = m
  nodup : l.Nodup
  lt : ∀ i ∈ l, i < g.st.length
theorem order_next {g : Gr} (h : g.Whole) {l : List Nat} {m : Nat} (ho : OrderOk g l m) (hm : m < g.st.length) : ∃ i, i < g.st.length ∧ firstOf (g.cand l) 0 g.st.length = some i ∧ g.cand l i = true ∧ ∀ j, j < i → g.cand l j = false := by
  have : ∃ i, i < g.st.length ∧ i ∉ l := by
    refine Classical.byContradiction fun hx => ?_
    have := all_in g.st.length l fun i hi => Classical.byContradiction fun hn => hx ⟨i, hi, hn⟩
    rw [ho.len] at this; omega
  obtain ⟨i, hi, hl⟩ := this
  obtain ⟨j, hj, hc⟩ := cand_ex h l _ i (Nat.le_refl _) hi hl
  rcases firstOf_or (g.cand l) g.st.length 0 with ⟨_, h2⟩ | ⟨k, _, h2, h3, h4, h5⟩
  · rw [h2 j (by omega) (by omega)] at hc; cases hc
  · exact ⟨k, by omega, h4, h3, fun j hj => h5 j (by omega) hj⟩
theorem OrderOk.snoc {g : Gr} {l : List Nat} {m i : Nat} (ho : OrderOk g l m) (hi : i < g.st.length) (hc : g.cand l i = true) : OrderOk g (l ++ [i]) (m + 1) := by
  have hn := (cand_iff.1 hc).1
  refine ⟨by simp [ho.len], ?_, fun j hj => ?_⟩
  · rw [List.nodup_append]
    exact ⟨ho.nodup, by simp, fun a ha b hb => by simp at hb; subst hb; intro e; subst e; exact hn ha⟩
  · rcases List.mem_append.1 hj with hj | hj
    · exact ho.lt j hj
    · simp at hj; omega
theorem orderN_ok {g : Gr} (h : g.Whole) : ∀ m, m ≤ g.st.length → OrderOk g (g.orderN m) m
  | 0, _ => ⟨rfl, by simp [Gr.orderN], by simp [Gr.orderN]⟩
  | m + 1, hm => by
    have ih := orderN_ok h m (by omega)
    obtain ⟨i, hi, h1, h2, _⟩ := order_next h ih (by omega)
    simp only [Gr.orderN, h1, Option.toList]
    exact ih.snoc hi h2
theorem orderN_succ {g : Gr} {m i : Nat} (hi : i < g.st.length) (hc : g.cand (g.orderN m) i = true) (hn : ∀ j, j < i → g.cand (g.orderN m) j = false) : g.orderN (m + 1) = g.orderN m ++ [i] := by
  simp only [Gr.orderN]
  rw [firstOf_some _ _ 0 i (by omega) (by omega) hc fun j _ hj => hn j hj]
  rfl
theorem orderN_mono {g : Gr} (m k : Nat) : ∃ r, g.orderN (m + k) = g.orderN m ++ r := by
  induction k with
  | zero => exact ⟨[], by simp⟩
  | succ k ih =>
    obtain ⟨r, hr⟩ := ih
    exact ⟨r ++ (firstOf (g.cand (g.orderN (m + k))) 0 g.st.length).toList, by rw [← Nat.add_assoc]; simp only [Gr.orderN]; rw [hr]; simp⟩

/-- What is met by following the ways from a stage: M' of M. -/
structure Done (g : Gr) (n : Nat) (M M' : Nat → Bool) : Prop where
  mono : ∀ x, M x = true → M' x = true
  reach : ∀ x, M' x = true → M x = true ∨ g.Reach n x
  next : ∀ y, g.Edge n y → M' y = true
  shut : ∀ x, M' x = true → M x = false → ∀ y, g.Edge x y → M' y = true
/-- .. of which the ducts D have been followed. -/
structure Part (g : Gr) (n : Nat) (D : Nat → Prop) (M M' : Nat → Bool) : Prop where
  mono : ∀ x, M x = true → M' x = true
  reach : ∀ x, M' x = true → M x = true ∨ g.Reach n x
  next : ∀ y, D y → M' y = true
  shut : ∀ x, M' x = true → M x = false → ∀ y, g.Edge x y → M' y = true
def setB (M : Nat → Bool) (k : Nat) : Nat → Bool := fun x => if x = k then true else M x
theorem part_start (g : Gr) (n : Nat) (M : Nat → Bool) : Part g n (fun _ => False) M M :=
  ⟨fun _ h => h, fun _ h => .inl h, fun _ h => h.elim, fun x h h' => by rw [h] at h'; cases h'⟩
theorem Part.more {g : Gr} {n : Nat} {D D' : Nat → Prop} {M M' : Nat → Bool} (h : Part g n D M M') (hD : ∀ y, D' y → D y) : Part g n D' M M' :=
  ⟨h.mono, h.reach, fun y hy => h.next y (hD y hy), h.shut⟩
theorem Part.met {g : Gr} {n : Nat} {D : Nat → Prop} {M M' : Nat → Bool} (h : Part g n D M M') {to : Nat} (ht : M' to = true) : Part g n (fun y => D y ∨ y = to) M M' :=
  ⟨h.mono, h.reach, fun y hy => by rcases hy with hy | rfl; exact h.next y hy; exact ht, h.shut⟩
theorem Part.go {g : Gr} {n : Nat} {D : Nat → Prop} {M M' M'' : Nat → Bool} (h : Part g n D M M') {to : Nat} (he : g.Edge n to) (k : Done g to (setB M' to) M'') : Part g n (fun y => D y ∨ y = to) M M'' := by
  have up : ∀ x, M' x = true → M'' x = true := fun x hx => k.mono x (by unfold setB; split <;> simp_all)
  have hto : M'' to = true := k.mono to (by simp [setB])
  refine ⟨fun x hx => up x (h.mono x hx), fun x hx => ?_, fun y hy => ?_, fun x hx hm y hxy => ?_⟩
  · rcases k.reach x hx with h1 | h1
    · unfold setB at h1
      split at h1
      · rename_i e; subst e; exact .inr (.one he)
      · exact h.reach x h1
    · exact .inr ((Gr.Reach.one he).trans h1)
  · rcases hy with hy | rfl
    · exact up y (h.next y hy)
    · exact hto
  · by_cases hxt : x = to
    · subst hxt; exact k.next y hxy
    · cases h1 : M' x with
      | true => exact up y (h.shut x h1 hm y hxy)
      | false => exact k.shut x hx (by unfold setB; rw [if_neg hxt]; exact h1) y hxy
theorem Part.all {g : Gr} {n : Nat} {D : Nat → Prop} {M M' : Nat → Bool} (h : Part g n D M M') (hD : ∀ y, g.Edge n y → D y) : Done g n M M' :=
  ⟨h.mono, h.reach, fun y hy => h.next y (hD y hy), h.shut⟩
theorem done_iff {g : Gr} {n : Nat} {M' : Nat → Bool} (h : Done g n (fun _ => false) M') (x : Nat) : M' x = true ↔ g.Reach n x := by
  constructor
  · intro hx
    rcases h.reach x hx with h1 | h1
    · cases h1
    · exact h1
  · intro hx
    induction hx with
    | one e => exact h.next _ e
    | more _ e ih => exact h.shut _ ih rfl _ e
/-- How many stages are not met. -/
def unmet (M : Nat → Bool) : Nat := (List.range 16).countP fun x => !M x
theorem unmet_le (M : Nat → Bool) : unmet M ≤ 16 := by
  have := List.countP_le_length (p := fun x => !M x) (l := List.range 16)
  simpa [unmet] using this
theorem unmet_set {M : Nat → Bool} {k : Nat} (hk : k < 16) (hm : M k = false) : unmet (setB M k) < unmet M := by
  refine countP_lt (x := k) (fun y _ hy => ?_) (List.mem_range.2 hk) (by simp [hm]) (by simp [setB])
  unfold setB at hy
  split at hy <;> simp_all
theorem unmet_mono {M M' : Nat → Bool} (h : ∀ x, M x = true → M' x = true) : unmet M' ≤ unmet M := by
  refine List.countP_mono_left fun x _ hx => ?_
  cases hm : M x with
  | true => rw [h x hm] at hx; cases hx
  | false => rfl

/-- What is marked after r rounds of the document's Reaches. -/
structure Marks (g : Gr) (n r : Nat) (S : Nat → Bool) : Prop where
  reach : ∀ x, S x = true → g.Reach n x
  next : ∀ y, g.Edge n y → S y = true
  far : (∀ x, g.Reach n x → S x = true) ∨ r < (List.range 16).countP S
theorem marks_start {g : Gr} {n : Nat} {S : Nat → Bool} (hlt : ∀ x y, g.Edge x y → y < 16) (h : ∀ y, S y = true ↔ g.Edge n y) : Marks g n 0 S := by
  refine ⟨fun x hx => .one ((h x).1 hx), fun y hy => (h y).2 hy, ?_⟩
  by_cases he : ∃ y, g.Edge n y
  · obtain ⟨y, hy⟩ := he
    exact .inr (List.countP_pos_iff.2 ⟨y, List.mem_range.2 (hlt n y hy), (h y).2 hy⟩)
  · refine .inl fun x hx => ?_
    exfalso
    induction hx with
    | one e => exact he ⟨_, e⟩
    | more _ _ ih => exact ih
theorem Marks.round {g : Gr} {n r : Nat} {S S' : Nat → Bool} (hlt : ∀ x y, g.Edge x y → y < 16) (h : Marks g n r S) (hm : ∀ x, S x = true → S' x = true) (hr : ∀ x, S' x = true → g.Reach n x)
    (hs : ∀ x y, S x = true → g.Edge x y → S' y = true) : Marks g n (r + 1) S' := by
  refine ⟨hr, fun y hy => hm y (h.next y hy), ?_⟩
  rcases h.far with hf | hf
  · exact .inl fun x hx => hm x (hf x hx)
  · by_cases hc : ∃ x y, S x = true ∧ g.Edge x y ∧ S y = false
    · obtain ⟨x, y, h1, h2, h3⟩ := hc
      have := countP_lt (p := S) (q := S') (x := y) (fun z _ hz => hm z hz) (List.mem_range.2 (hlt x y h2)) (hs x y h1 h2) h3
      exact .inr (by omega)
    · refine .inl fun x hx => hm x ?_
      induction hx with
      | one e => exact h.next _ e
      | more _ e ih =>
        rename_i b c _
        cases hb : S c with
        | true => rfl
        | false => exact absurd ⟨b, c, ih, e, hb⟩ hc
theorem Marks.last {g : Gr} {n : Nat} {S : Nat → Bool} (h : Marks g n 16 S) (x : Nat) : S x = true ↔ g.Reach n x := by
  refine ⟨h.reach x, ?_⟩
  rcases h.far with hf | hf
  · exact hf x
  · have := List.countP_le_length (p := S) (l := List.range 16)
    rw [List.length_range] at this; omega
end Go.Proofs.Ytljldkknopmfhaa

/- Graphs: how many ports there are; two graphs side by side. Plainly. -/
namespace Go.Proofs.Ytljldkknopmfhaa

def sumTo (f : Nat → Nat) : Nat → Nat
  | 0 => 0
  | n + 1 => sumTo f n + f n
theorem sumTo_congr {f f' : Nat → Nat} : ∀ {n : Nat}, (∀ i, i < n → f i = f' i) → sumTo f n = sumTo f' n
  | 0, _ => rfl
  | n + 1, h => by simp only [sumTo, h n (by omega), sumTo_congr (f := f) (f' := f') (n := n) fun i hi => h i (by omega)]
theorem sumTo_add (f f' : Nat → Nat) : ∀ n, sumTo (fun i => f i + f' i) n = sumTo f n + sumTo f' n
  | 0 => rfl
  | n + 1 => by simp only [sumTo, sumTo_add f f' n]; omega
theorem sumTo_one (k : Nat) : ∀ n, sumTo (fun i => if k = i then 1 else 0) n = if k < n then 1 else 0
  | 0 => by simp [sumTo]
  | n + 1 => by
    simp only [sumTo, sumTo_one k n]
    by_cases h1 : k < n
    · rw [if_pos h1, if_neg (by omega), if_pos (by omega)]
    · by_cases h2 : k = n
      · rw [if_neg h1, if_pos h2, if_pos (by omega)]
      · rw [if_neg h1, if_neg h2, if_neg (by omega)]
theorem sumTo_zero : ∀ n, sumTo (fun _ => 0) n = 0
  | 0 => rfl
  | n + 1 => by simp only [sumTo, sumTo_zero n]
theorem sum_parts (f : Dct → Int) (n : Nat) : ∀ l : List Dct, (∀ d ∈ l, 0 ≤ f d ∧ f d < n) → l.length = sumTo (fun i => l.countP fun d => decide (f d = (i : Int))) n
  | [], _ => by simp [sumTo_zero]
  | d :: l, h => by
    have ih := sum_parts f n l fun x hx => h x (List.mem_cons_of_mem _ hx)
    have hd := h d (List.mem_cons_self ..)
    have e : sumTo (fun i => (d :: l).countP fun d => decide (f d = (i : Int))) n = sumTo (fun i => (l.countP fun d => decide (f d = (i : Int))) + (if (f d).toNat = i then 1 else 0)) n := by
      refine sumTo_congr fun i _ => ?_
      rw [List.countP_cons]
      congr 1
      by_cases hi : f d = i
      · rw [if_pos (by simpa using hi), if_pos (by omega)]
      · rw [if_neg (by simpa using hi), if_neg (by omega)]
    rw [e, sumTo_add, ← ih, sumTo_one, if_pos (by omega)]
    simp
theorem count_ports (l : List Dct) (f p : Dct → Int) (i m : Int) (h1 : ∀ d ∈ l, f d = i → 0 ≤ p d ∧ p d < m) (h2 : l.Pairwise fun d e => ¬ (f d = f e ∧ p d = p e)) (h3 : ∀ k : Nat, (k : Int) < m → ∃ d ∈ l, f d = i ∧ p d = k) :
    (l.countP fun d => decide (f d = i)) = m.toNat := by
  rw [List.countP_eq_length_filter]
  have hm : ∀ d, d ∈ l.filter (fun d => decide (f d = i)) ↔ d ∈ l ∧ f d = i := fun d => by rw [List.mem_filter, decide_eq_true_eq]
  have e : (l.filter fun d => decide (f d = i)).length = ((l.filter fun d => decide (f d = i)).map fun d => (p d).toNat).length := by simp
  rw [e]
  refine Nat.le_antisymm (all_below _ _ ?_ fun x hx => ?_) (all_in _ _ fun k hk => ?_)
  · rw [List.Nodup, List.pairwise_map]
    have hf := h2.filter fun d => decide (f d = i)
    refine List.Pairwise.imp_of_mem (fun {a b} ha hb hab heq => ?_) hf
    have ha := (hm a).1 ha
    have hb := (hm b).1 hb
    have := h1 a ha.1 ha.2
    have := h1 b hb.1 hb.2
    exact hab ⟨by rw [ha.2, hb.2], by omega⟩
  · obtain ⟨d, hd, rfl⟩ := List.mem_map.1 hx
    have hd := (hm d).1 hd
    have := h1 d hd.1 hd.2
    omega
  · obtain ⟨d, hd, e1, e2⟩ := h3 k (by omega)
    exact List.mem_map.2 ⟨d, (hm d).2 ⟨hd, e1⟩, by omega⟩
theorem inP_iff {i k : Int} {d : Dct} : inP i k d = true ↔ d.to = i ∧ d.inn = k := by simp [inP]
theorem outP_iff {i k : Int} {d : Dct} : outP i k d = true ↔ d.frm = i ∧ d.out = k := by simp [outP]
theorem inP_no {i k : Int} {d : Dct} : inP i k d = false ↔ ¬ (d.to = i ∧ d.inn = k) := by simp [inP]
theorem outP_no {i k : Int} {d : Dct} : outP i k d = false ↔ ¬ (d.frm = i ∧ d.out = k) := by simp [outP]
theorem take_mem {α : Type} {l : List α} {i j : Nat} (hi : i < j) (hj : i < l.length) : l[i] ∈ l.take j := by
  rw [List.mem_take_iff_getElem]
  exact ⟨i, by omega, rfl⟩
theorem Gr.Laid.fit {g : Gr} (h : g.Laid) {j : Nat} (hj : j < g.du.length) :
    (0 ≤ (g.d j).frm ∧ (g.d j).frm < g.st.length) ∧ (0 ≤ (g.d j).to ∧ (g.d j).to < g.st.length) ∧ (0 ≤ (g.d j).out ∧ (g.d j).out < (g.s (g.d j).frm.toNat).outs) ∧
    (0 ≤ (g.d j).inn ∧ (g.d j).inn < (g.s (g.d j).to.toNat).ins) ∧ outAt (g.du.take j) (g.d j).frm (g.d j).out = -1 ∧ inAt (g.du.take j) (g.d j).to (g.d j).inn = -1 := fits_iff.1 (duBad_fits (h.du j hj)).1
theorem Gr.Laid.inPair {g : Gr} (h : g.Laid) : g.du.Pairwise fun d e => ¬ (d.to = e.to ∧ d.inn = e.inn) := by
  rw [List.pairwise_iff_getElem]
  intro i j hi hj hij
  obtain ⟨_, _, _, _, _, h6⟩ := h.fit hj
  rw [d_mem hj] at h6
  exact inP_no.1 (idx_none.1 h6 _ (take_mem hij hi))
theorem Gr.Laid.outPair {g : Gr} (h : g.Laid) : g.du.Pairwise fun d e => ¬ (d.frm = e.frm ∧ d.out = e.out) := by
  rw [List.pairwise_iff_getElem]
  intro i j hi hj hij
  obtain ⟨_, _, _, _, h5, _⟩ := h.fit hj
  rw [d_mem hj] at h5
  exact outP_no.1 (idx_none.1 h5 _ (take_mem hij hi))
theorem Gr.Laid.inEx {g : Gr} (h : g.Laid) {i k : Nat} (hi : i < g.st.length) (hk : (k : Int) < (g.s i).ins) : inAt g.du i k ≠ -1 := fun e => h.da i hi (.inl ⟨k, hk, e⟩)
theorem Gr.Laid.outEx {g : Gr} (h : g.Laid) {i k : Nat} (hi : i < g.st.length) (hk : (k : Int) < (g.s i).outs) : outAt g.du i k ≠ -1 := fun e => h.da i hi (.inr ⟨k, hk, e⟩)
theorem idx_at {p : Dct → Bool} {l : List Dct} (h : idxFrom p l 0 ≠ -1) : ∃ j, ∃ h : j < l.length, idxFrom p l 0 = j ∧ p l[j] = true := by
  rcases idxFrom_or p l 0 with ⟨h1, _⟩ | ⟨j, hj, h1, h2, _⟩
  · exact absurd h1 h
  · exact ⟨j, hj, by rw [h1]; simp, h2⟩
theorem ins_sum {g : Gr} (h : g.Laid) : sumTo (fun i => (g.s i).ins.toNat) g.st.length = g.du.length := by
  rw [sum_parts (fun d => d.to) g.st.length g.du fun d hd => (h.ends d hd).2]
  refine sumTo_congr fun i hi => ?_
  refine (count_ports g.du (fun d => d.to) (fun d => d.inn) i (g.s i).ins (fun d hd e => ?_) h.inPair fun k hk => ?_).symm
  · obtain ⟨j, hj, rfl⟩ := List.getElem_of_mem hd
    obtain ⟨_, h2, _, h4, _⟩ := h.fit hj
    rw [d_mem hj] at h4
    rw [e] at h4
    simpa using h4
  · obtain ⟨j, hj, _, h2⟩ := idx_at (h.inEx hi hk)
    exact ⟨_, List.getElem_mem hj, inP_iff.1 h2⟩
theorem outs_sum {g : Gr} (h : g.Laid) : sumTo (fun i => (g.s i).outs.toNat) g.st.length = g.du.length := by
  rw [sum_parts (fun d => d.frm) g.st.length g.du fun d hd => (h.ends d hd).1]
  refine sumTo_congr fun i hi => ?_
  refine (count_ports g.du (fun d => d.frm) (fun d => d.out) i (g.s i).outs (fun d hd e => ?_) h.outPair fun k hk => ?_).symm
  · obtain ⟨j, hj, rfl⟩ := List.getElem_of_mem hd
    obtain ⟨_, _, h3, _⟩ := h.fit hj
    rw [d_mem hj] at h3
    rw [e] at h3
    simpa using h3
  · obtain ⟨j, hj, _, h2⟩ := idx_at (h.outEx hi hk)
    exact ⟨_, List.getElem_mem hj, outP_iff.1 h2⟩

/-- A duct of a graph that stands behind n stages. -/
def shiftD (n : Nat) (d : Dct) : Dct := ⟨d.frm + n, d.out, d.to + n, d.inn, d.cap⟩
/-- Two graphs as one. -/
def besideG (g h : Gr) : Gr := ⟨g.st ++ h.st, g.du ++ h.du.map (shiftD g.st.length)⟩
section
variable {g h : Gr}
theorem beside_st (g h : Gr) : (besideG g h).st.length = g.st.length + h.st.length := by simp [besideG]
theorem beside_du (g h : Gr) : (besideG g h).du.length = g.du.length + h.du.length := by simp [besideG]
theorem beside_s1 {i : Nat} (hi : i < g.st.length) : (besideG g h).s i = g.s i := by
  simp [besideG, Gr.s, List.getD_eq_getElem?_getD, List.getElem?_append_left hi]
theorem beside_s2 (i : Nat) : (besideG g h).s (g.st.length + i) = h.s i := by
  simp [besideG, Gr.s, List.getD_eq_getElem?_getD, List.getElem?_append_right (Nat.le_add_right _ i)]
theorem beside_d1 {j : Nat} (hj : j < g.du.length) : (besideG g h).d j = g.d j := by
  simp [besideG, Gr.d, List.getD_eq_getElem?_getD, List.getElem?_append_left hj]
theorem beside_d2 {j : Nat} (hj : j < h.du.length) : (besideG g h).d (g.du.length + j) = shiftD g.st.length (h.d j) := by
  simp [besideG, Gr.d, List.getD_eq_getElem?_getD, hj]
theorem beside_mem {d : Dct} : d ∈ (besideG g h).du ↔ d ∈ g.du ∨ ∃ e ∈ h.du, d = shiftD g.st.length e := by
  simp only [besideG, List.mem_append, List.mem_map]
  exact or_congr_right ⟨fun ⟨e, h1, h2⟩ => ⟨e, h1, h2.symm⟩, fun ⟨e, h1, h2⟩ => ⟨e, h1, h2.symm⟩⟩
theorem beside_edge1 (hh : h.Laid) {a b : Nat} (ha : a < g.st.length) (e : (besideG g h).Edge a b) : g.Edge a b := by
  obtain ⟨d, hd, h1, h2⟩ := e
  rcases beside_mem.1 hd with hd | ⟨x, hx, rfl⟩
  · exact ⟨d, hd, h1, h2⟩
  · have := (hh.ends x hx).1; simp [shiftD] at h1; omega
theorem beside_edge2 (hg : g.Laid) (hh : h.Laid) {a b : Nat} (e : (besideG g h).Edge (g.st.length + a) b) : ∃ c, b = g.st.length + c ∧ h.Edge a c := by
  obtain ⟨d, hd, h1, h2⟩ := e
  rcases beside_mem.1 hd with hd | ⟨x, hx, rfl⟩
  · have := (hg.ends d hd).1; omega
  · simp only [shiftD] at h1 h2
    have := (hh.ends x hx).2
    exact ⟨x.to.toNat, by omega, ⟨x, hx, by omega, by omega⟩⟩
theorem beside_reach1 (hg : g.Laid) (hh : h.Laid) {a b : Nat} (e : (besideG g h).Reach a b) (ha : a < g.st.length) : b < g.st.length ∧ g.Reach a b := by
  have lt : ∀ {x y : Nat}, g.Edge x y → y < g.st.length := by
    rintro x y ⟨d, hd, _, h2⟩
    have := (hg.ends d hd).2; omega
  induction e with
  | one e =>
    have e' := beside_edge1 hh ha e
    exact ⟨lt e', .one e'⟩
  | more _ e ih =>
    have e' := beside_edge1 hh ih.1 e
    exact ⟨lt e', .more ih.2 e'⟩
theorem beside_reach2 (hg : g.Laid) (hh : h.Laid) {a b : Nat} (e : (besideG g h).Reach (g.st.length + a) b) : ∃ c, b = g.st.length + c ∧ h.Reach a c := by
  induction e with
  | one e =>
    obtain ⟨c, rfl, k⟩ := beside_edge2 hg hh e
    exact ⟨c, rfl, .one k⟩
  | more _ e ih =>
    obtain ⟨c, rfl, k⟩ := ih
    obtain ⟨c', rfl, k'⟩ := beside_edge2 hg hh e
    exact ⟨c', rfl, .more k k'⟩
theorem toNat_shift {x : Int} {n : Nat} (hx : 0 ≤ x) : (x + n).toNat = n + x.toNat := by omega
theorem beside_fits2 (hg : g.Laid) (hh : h.Laid) {j : Nat} (hj : j < h.du.length) : (besideG g h).fits (g.du.length + j) = true := by
  obtain ⟨f1, f2, f3, f4, f5, f6⟩ := hh.fit hj
  rw [fits_iff, beside_d2 hj]
  have ht : (besideG g h).du.take (g.du.length + j) = g.du ++ (h.du.take j).map (shiftD g.st.length) := by
    simp [besideG, List.take_append, List.map_take]
    exact List.take_of_length_le (by omega)
  rw [ht, beside_st]
  simp only [shiftD]
  rw [toNat_shift f1.1, toNat_shift f2.1, beside_s2, beside_s2]
  refine ⟨by omega, by omega, f3, f4, ?_, ?_⟩
  · refine idx_none.2 fun d hd => outP_no.2 ?_
    rcases List.mem_append.1 hd with hd | hd
    · have := (hg.ends d hd).1; omega
    · obtain ⟨e, he, rfl⟩ := List.mem_map.1 hd
      have := outP_no.1 (idx_none.1 f5 e he)
      simp only [shiftD]; omega
  · refine idx_none.2 fun d hd => inP_no.2 ?_
    rcases List.mem_append.1 hd with hd | hd
    · have := (hg.ends d hd).2; omega
    · obtain ⟨e, he, rfl⟩ := List.mem_map.1 hd
      have := inP_no.1 (idx_none.1 f6 e he)
      simp only [shiftD]; omega
theorem beside_fits1 (hg : g.Laid) {j : Nat} (hj : j < g.du.length) : (besideG g h).fits j = true := by
  obtain ⟨f1, f2, f3, f4, f5, f6⟩ := hg.fit hj
  rw [fits_iff, beside_d1 hj]
  have ht : (besideG g h).du.take j = g.du.take j := by
    simp [besideG, List.take_append_of_le_length (Nat.le_of_lt hj)]
  rw [ht, beside_st, beside_s1 (by omega), beside_s1 (by omega)]
  exact ⟨by omega, by omega, f3, f4, f5, f6⟩
theorem beside_laid (hg : g.Laid) (hh : h.Laid) (h1 : g.st.length + h.st.length ≤ 16) (h2 : g.du.length + h.du.length ≤ 64) : (besideG g h).Laid := by
  refine ⟨by rw [beside_st]; exact h1, by rw [beside_du]; exact h2, fun i hi => ?_, fun j hj => ?_, fun i hi => ?_⟩
  · rw [beside_st] at hi
    unfold Gr.stBad
    by_cases hi1 : i < g.st.length
    · rw [beside_s1 hi1]; exact hg.st i hi1
    · obtain ⟨k, rfl⟩ := Nat.exists_eq_add_of_le (Nat.le_of_not_lt hi1)
      rw [beside_s2]; exact hh.st k (by omega)
  · rw [beside_du] at hj
    by_cases hj1 : j < g.du.length
    · have := duBad_fits (hg.du j hj1)
      unfold Gr.duBad
      rw [beside_fits1 hg hj1, beside_d1 hj1, if_neg (by simp), if_neg (by omega)]
    · obtain ⟨k, rfl⟩ := Nat.exists_eq_add_of_le (Nat.le_of_not_lt hj1)
      have hk : k < h.du.length := by omega
      have := duBad_fits (hh.du k hk)
      unfold Gr.duBad
      rw [beside_fits2 hg hh hk, beside_d2 hk, if_neg (by simp)]
      exact if_neg (by show ¬ ((h.d k).cap < 1 ∨ 8 < (h.d k).cap); omega)
  · rw [beside_st] at hi
    by_cases hi1 : i < g.st.length
    · rintro (⟨k, hk, e⟩ | ⟨k, hk, e⟩)
      · rw [beside_s1 hi1] at hk
        exact hg.inEx hi1 hk (idx_none.2 fun d hd => idx_none.1 e d (beside_mem.2 (.inl hd)))
      · rw [beside_s1 hi1] at hk
        exact hg.outEx hi1 hk (idx_none.2 fun d hd => idx_none.1 e d (beside_mem.2 (.inl hd)))
    · obtain ⟨q, rfl⟩ := Nat.exists_eq_add_of_le (Nat.le_of_not_lt hi1)
      have hq : q < h.st.length := by omega
      rintro (⟨k, hk, e⟩ | ⟨k, hk, e⟩)
      · rw [beside_s2] at hk
        refine hh.inEx hq hk (idx_none.2 fun d hd => ?_)
        have := inP_no.1 (idx_none.1 e _ (beside_mem.2 (.inr ⟨d, hd, rfl⟩)))
        simp only [shiftD] at this
        exact inP_no.2 (by omega)
      · rw [beside_s2] at hk
        refine hh.outEx hq hk (idx_none.2 fun d hd => ?_)
        have := outP_no.1 (idx_none.1 e _ (beside_mem.2 (.inr ⟨d, hd, rfl⟩)))
        simp only [shiftD] at this
        exact outP_no.2 (by omega)
theorem beside_whole (hg : g.Whole) (hh : h.Whole) (h1 : g.st.length + h.st.length ≤ 16) (h2 : g.du.length + h.du.length ≤ 64) : (besideG g h).Whole := by
  refine ⟨beside_laid hg.toLaid hh.toLaid h1 h2, fun i hi hr => ?_⟩
  rw [beside_st] at hi
  by_cases hi1 : i < g.st.length
  · exact hg.cy i hi1 (beside_reach1 hg.toLaid hh.toLaid hr hi1).2
  · obtain ⟨q, rfl⟩ := Nat.exists_eq_add_of_le (Nat.le_of_not_lt hi1)
    obtain ⟨c, e, k⟩ := beside_reach2 hg.toLaid hh.toLaid hr
    obtain rfl : q = c := by omega
    exact hh.cy q (by omega) k
theorem beside_cand1 (hh : h.Laid) {i : Nat} (hi : i < g.st.length) (l : List Nat) : (besideG g h).cand l i = g.cand l i := by
  rw [Bool.eq_iff_iff, cand_iff, cand_iff]
  refine and_congr_right fun _ => ⟨fun k d hd => k d (beside_mem.2 (.inl hd)), fun k d hd e => ?_⟩
  rcases beside_mem.1 hd with hd | ⟨x, hx, rfl⟩
  · exact k d hd e
  · have := (hh.ends x hx).2; simp [shiftD] at e; omega
theorem beside_cand2 (hg : g.Laid) (hh : h.Laid) {a : List Nat} (ha : ∀ x ∈ a, x < g.st.length) (l : List Nat) (i : Nat) : (besideG g h).cand (a ++ l.map (g.st.length + ·)) (g.st.length + i) = h.cand l i := by
  have hm : ∀ x, g.st.length + x ∈ a ++ l.map (g.st.length + ·) ↔ x ∈ l := by
    intro x
    rw [List.mem_append, List.mem_map]
    constructor
    · rintro (h1 | ⟨y, hy, e⟩)
      · have := ha _ h1; omega
      · obtain rfl : y = x := by omega
        exact hy
    · exact fun hx => .inr ⟨x, hx, rfl⟩
  rw [Bool.eq_iff_iff, cand_iff, cand_iff, hm]
  refine and_congr_right fun _ => ?_
  constructor
  · intro k d hd e
    have := k _ (beside_mem.2 (.inr ⟨d, hd, rfl⟩)) (by simp only [shiftD]; omega)
    simp only [shiftD] at this
    obtain ⟨s, hs, es⟩ := hasN_iff.1 this
    by_cases hsa : s < g.st.length
    · have := (hh.ends d hd).1; omega
    · obtain ⟨q, rfl⟩ := Nat.exists_eq_add_of_le (Nat.le_of_not_lt hsa)
      exact hasN_iff.2 ⟨q, (hm q).1 hs, by omega⟩
  · intro k d hd e
    rcases beside_mem.1 hd with hd | ⟨x, hx, rfl⟩
    · have := (hg.ends d hd).2; omega
    · simp only [shiftD] at e ⊢
      obtain ⟨s, hs, es⟩ := hasN_iff.1 (k x hx (by omega))
      exact hasN_iff.2 ⟨g.st.length + s, (hm s).2 hs, by omega⟩
theorem OrderOk.all {l : List Nat} (ho : OrderOk g l g.st.length) {i : Nat} (hi : i < g.st.length) : i ∈ l := by
  refine Classical.byContradiction fun hn => ?_
  have := all_below g.st.length (l ++ [i]) (by
    rw [List.nodup_append]
    exact ⟨ho.nodup, by simp, fun a ha b hb => by simp at hb; subst hb; intro e; subst e; exact hn ha⟩) (fun j hj => by
    rcases List.mem_append.1 hj with hj | hj
    · exact ho.lt j hj
    · simp at hj; omega)
  simp [ho.len] at this
  omega
theorem beside_order1 (hg : g.Whole) (hh : h.Whole) : ∀ m, m ≤ g.st.length → (besideG g h).orderN m = g.orderN m
  | 0, _ => rfl
  | m + 1, hm => by
    have ih := beside_order1 hg hh m (by omega)
    obtain ⟨i, hi, h1, h2, h3⟩ := order_next hg (orderN_ok hg m (by omega)) (by omega)
    rw [orderN_succ hi h2 h3, orderN_succ (i := i) (by rw [beside_st]; omega) (by rw [ih, beside_cand1 hh.toLaid hi]; exact h2) (fun j hj => by rw [ih, beside_cand1 hh.toLaid (by omega)]; exact h3 j hj), ih]
theorem beside_order2 (hg : g.Whole) (hh : h.Whole) : ∀ m, m ≤ h.st.length → (besideG g h).orderN (g.st.length + m) = g.order ++ (h.orderN m).map (g.st.length + ·)
  | 0, _ => by simpa [Gr.orderN, Gr.order] using beside_order1 hg hh g.st.length (Nat.le_refl _)
  | m + 1, hm => by
    have ih := beside_order2 hg hh m (by omega)
    have ho : OrderOk g g.order g.st.length := orderN_ok hg g.st.length (Nat.le_refl _)
    obtain ⟨i, hi, h1, h2, h3⟩ := order_next hh (orderN_ok hh m (by omega)) (by omega)
    rw [← Nat.add_assoc, orderN_succ (g := besideG g h) (i := g.st.length + i) (by rw [beside_st]; omega) (by rw [ih, beside_cand2 hg.toLaid hh.toLaid ho.lt]; exact h2) ?_, ih, orderN_succ hi h2 h3]
    · simp
    · intro j hj
      rw [ih]
      by_cases hj1 : j < g.st.length
      · cases hc : (besideG g h).cand (g.order ++ (h.orderN m).map (g.st.length + ·)) j with
        | false => rfl
        | true => exact absurd (List.mem_append.2 (.inl (ho.all hj1))) (cand_iff.1 hc).1
      · obtain ⟨k, rfl⟩ := Nat.exists_eq_add_of_le (Nat.le_of_not_lt hj1)
        rw [beside_cand2 hg.toLaid hh.toLaid ho.lt]
        exact h3 k (by omega)
theorem beside_order (hg : g.Whole) (hh : h.Whole) : (besideG g h).order = g.order ++ h.order.map (g.st.length + ·) := by
  unfold Gr.order
  rw [beside_st]
  exact beside_order2 hg hh h.st.length (Nat.le_refl _)
end
end Go.Proofs.Ytljldkknopmfhaa

/- Graphs: the rows of ducts at all ports, as they are filled. Plainly. -/
namespace Go.Proofs.Ytljldkknopmfhaa

/-- The ducts at a stage's inputs, when i stages and j ducts have been gone through. -/
def Gr.inRow (g : Gr) (i j s : Nat) : List Int := if s < i then (List.range (g.s s).ins.toNat).map fun (k : Nat) => inAt (g.du.take j) s k else []
def Gr.outRow (g : Gr) (i j s : Nat) : List Int := if s < i then (List.range (g.s s).outs.toNat).map fun (k : Nat) => outAt (g.du.take j) s k else []
/-- Both, one behind the other: 16 inputs' rows, 16 outputs' rows. -/
def Gr.tab (g : Gr) (i j s : Nat) : List Int := if s < 16 then g.inRow i j s else g.outRow i j (s - 16)
theorem map_range_const (n : Nat) (c : Int) : (List.range n).map (fun _ => c) = List.replicate n c := by
  apply List.ext_getElem
  · simp
  · intro i h1 h2; simp
theorem inRow_start (g : Gr) (i s : Nat) : g.inRow i 0 s = if s < i then List.replicate (g.s s).ins.toNat (-1) else [] := by
  unfold Gr.inRow
  split
  · exact map_range_const _ _
  · rfl
theorem outRow_start (g : Gr) (i s : Nat) : g.outRow i 0 s = if s < i then List.replicate (g.s s).outs.toNat (-1) else [] := by
  unfold Gr.outRow
  split
  · exact map_range_const _ _
  · rfl
theorem take_next {g : Gr} {j : Nat} (hj : j < g.du.length) : g.du.take (j + 1) = g.du.take j ++ [g.d j] := by
  rw [List.take_succ_eq_append_getElem hj, d_mem hj]
theorem map_set_one (n q : Nat) (v : Int) (f f' : Nat → Int) (h1 : f' q = v) (h2 : ∀ k, k < n → k ≠ q → f' k = f k) : (List.range n).map f' = ((List.range n).map f).set q v := by
  apply List.ext_getElem
  · simp
  · intro k hk1 hk2
    have hk : k < n := by simpa using hk1
    rw [List.getElem_set]
    simp only [List.getElem_map, List.getElem_range]
    split
    · rename_i e; subst e; exact h1
    · rename_i e; exact h2 k hk (fun e' => e e'.symm)
theorem inRow_next {g : Gr} {i j s : Nat} (hj : j < g.du.length) (hf : g.fits j = true) :
    g.inRow i (j + 1) s = if s = (g.d j).to.toNat then (g.inRow i j s).set (g.d j).inn.toNat j else g.inRow i j s := by
  obtain ⟨_, f2, _, f4, _, f6⟩ := fits_iff.1 hf
  have hlen : ((g.du.take j).length : Int) = j := by simp; omega
  unfold Gr.inRow
  by_cases hs : s < i
  · rw [if_pos hs, if_pos hs, take_next hj]
    by_cases he : s = (g.d j).to.toNat
    · rw [if_pos he]
      have hes : (s : Int) = (g.d j).to := by omega
      refine map_set_one _ _ _ _ _ ?_ fun k hk hne => ?_
      · rw [inAt_snoc, hes, show (((g.d j).inn.toNat : Nat) : Int) = (g.d j).inn from by omega, if_pos f6, if_pos (by simp [inP]), hlen]
      · rw [inAt_snoc]
        rw [if_neg (c := inP _ _ _ = true) (by rw [inP_iff]; omega)]
        split
        · rename_i e; exact e.symm
        · rfl
    · rw [if_neg he]
      refine List.map_congr_left fun k _ => ?_
      rw [inAt_snoc, if_neg (c := inP _ _ _ = true) (by rw [inP_iff]; omega)]
      split
      · rename_i e; exact e.symm
      · rfl
  · rw [if_neg hs, if_neg hs]; simp
theorem outRow_next {g : Gr} {i j s : Nat} (hj : j < g.du.length) (hf : g.fits j = true) :
    g.outRow i (j + 1) s = if s = (g.d j).frm.toNat then (g.outRow i j s).set (g.d j).out.toNat j else g.outRow i j s := by
  obtain ⟨f1, _, f3, _, f5, _⟩ := fits_iff.1 hf
  have hlen : ((g.du.take j).length : Int) = j := by simp; omega
  unfold Gr.outRow
  by_cases hs : s < i
  · rw [if_pos hs, if_pos hs, take_next hj]
    by_cases he : s = (g.d j).frm.toNat
    · rw [if_pos he]
      have hes : (s : Int) = (g.d j).frm := by omega
      refine map_set_one _ _ _ _ _ ?_ fun k hk hne => ?_
      · rw [outAt_snoc, hes, show (((g.d j).out.toNat : Nat) : Int) = (g.d j).out from by omega, if_pos f5, if_pos (by simp [outP]), hlen]
      · rw [outAt_snoc]
        rw [if_neg (c := outP _ _ _ = true) (by rw [outP_iff]; omega)]
        split
        · rename_i e; exact e.symm
        · rfl
    · rw [if_neg he]
      refine List.map_congr_left fun k _ => ?_
      rw [outAt_snoc, if_neg (c := outP _ _ _ = true) (by rw [outP_iff]; omega)]
      split
      · rename_i e; exact e.symm
      · rfl
  · rw [if_neg hs, if_neg hs]; simp
theorem inRow_len {g : Gr} {i j s : Nat} (hs : s < i) : (g.inRow i j s).length = (g.s s).ins.toNat := by simp [Gr.inRow, hs]
theorem outRow_len {g : Gr} {i j s : Nat} (hs : s < i) : (g.outRow i j s).length = (g.s s).outs.toNat := by simp [Gr.outRow, hs]
theorem inRow_get {g : Gr} {i j s k : Nat} (hs : s < i) (hk : k < (g.s s).ins.toNat) : (g.inRow i j s).getD k 0 = inAt (g.du.take j) s k := by
  simp [Gr.inRow, hs, List.getD_eq_getElem?_getD, hk]
theorem outRow_get {g : Gr} {i j s k : Nat} (hs : s < i) (hk : k < (g.s s).outs.toNat) : (g.outRow i j s).getD k 0 = outAt (g.du.take j) s k := by
  simp [Gr.outRow, hs, List.getD_eq_getElem?_getD, hk]
/-- The rows of a graph whose ports are all laid. -/
def Gr.insOf (g : Gr) (s : Nat) : List Int := g.inRow g.st.length g.du.length s
def Gr.outsOf (g : Gr) (s : Nat) : List Int := g.outRow g.st.length g.du.length s
theorem insOf_eq {g : Gr} {s : Nat} (hs : s < g.st.length) : g.insOf s = (List.range (g.s s).ins.toNat).map fun (k : Nat) => inAt g.du s k := by
  simp [Gr.insOf, Gr.inRow, hs]
theorem outsOf_eq {g : Gr} {s : Nat} (hs : s < g.st.length) : g.outsOf s = (List.range (g.s s).outs.toNat).map fun (k : Nat) => outAt g.du s k := by
  simp [Gr.outsOf, Gr.outRow, hs]
theorem dang_iff {g : Gr} {s : Nat} (hs : s < g.st.length) : g.dang s ↔ -1 ∈ g.insOf s ∨ -1 ∈ g.outsOf s := by
  rw [insOf_eq hs, outsOf_eq hs, List.mem_map, List.mem_map]
  unfold Gr.dang
  refine or_congr ?_ ?_
  · constructor
    · rintro ⟨k, hk, e⟩; exact ⟨k, List.mem_range.2 (by omega), e⟩
    · rintro ⟨k, hk, e⟩; rw [List.mem_range] at hk; exact ⟨k, by omega, e⟩
  · constructor
    · rintro ⟨k, hk, e⟩; exact ⟨k, List.mem_range.2 (by omega), e⟩
    · rintro ⟨k, hk, e⟩; rw [List.mem_range] at hk; exact ⟨k, by omega, e⟩
/-- Where a stage's duct leads. -/
def Gr.goes (g : Gr) (x : Int) : Nat := (g.d x.toNat).to.toNat
theorem out_entry {g : Gr} (h : g.Laid) {s : Nat} (hs : s < g.st.length) {x : Int} (hx : x ∈ g.outsOf s) : 0 ≤ x ∧ x < g.du.length ∧ (g.d x.toNat).frm = s ∧ (0 ≤ (g.d x.toNat).to ∧ (g.d x.toNat).to < g.st.length) ∧ g.Edge s (g.goes x) := by
  rw [outsOf_eq hs, List.mem_map] at hx
  obtain ⟨k, hk, rfl⟩ := hx
  rw [List.mem_range] at hk
  obtain ⟨j, hj, e, hp⟩ := idx_at (h.outEx hs (by omega : (k : Int) < _))
  have e' : outAt g.du s k = j := e
  rw [e', show ((j : Int)).toNat = j from by omega]
  have hd := d_mem hj
  rw [← hd] at hp
  have h2 := (h.ends _ (List.getElem_mem hj)).2
  rw [← hd] at h2
  refine ⟨by omega, by omega, (outP_iff.1 hp).1, h2, g.d j, by rw [hd]; exact List.getElem_mem hj, (outP_iff.1 hp).1, ?_⟩
  unfold Gr.goes; rw [show ((j : Int)).toNat = j from by omega]; omega
theorem edge_entry {g : Gr} (h : g.Laid) {s y : Nat} (hs : s < g.st.length) (he : g.Edge s y) : ∃ x ∈ g.outsOf s, g.goes x = y := by
  obtain ⟨d, hd, h1, h2⟩ := he
  obtain ⟨j, hj, rfl⟩ := List.getElem_of_mem hd
  obtain ⟨_, _, f3, _, f5, _⟩ := h.fit hj
  rw [d_mem hj] at f3 f5
  have e : outAt g.du s (g.du[j]).out = j := by
    refine idx_one hj (outP_iff.2 ⟨h1, rfl⟩) fun i hi => ?_
    have hp := h.outPair
    rw [List.pairwise_iff_getElem] at hp
    have := hp i j (by omega) hj hi
    exact outP_no.2 fun ⟨a, b⟩ => this ⟨by rw [a, h1], b⟩
  refine ⟨(j : Int), ?_, ?_⟩
  · rw [outsOf_eq hs, List.mem_map]
    refine ⟨(g.du[j]).out.toNat, List.mem_range.2 ?_, ?_⟩
    · rw [show (g.du[j]).frm.toNat = s from by omega] at f3; omega
    · rw [show (((g.du[j]).out.toNat : Nat) : Int) = (g.du[j]).out from by omega]; exact e
  · unfold Gr.goes
    rw [show ((j : Int)).toNat = j from by omega, d_mem hj]; omega
theorem in_entry {g : Gr} (h : g.Laid) {s : Nat} (hs : s < g.st.length) {x : Int} (hx : x ∈ g.insOf s) : 0 ≤ x ∧ x < g.du.length ∧ (g.d x.toNat).to = s ∧ g.d x.toNat ∈ g.du := by
  rw [insOf_eq hs, List.mem_map] at hx
  obtain ⟨k, hk, rfl⟩ := hx
  rw [List.mem_range] at hk
  obtain ⟨j, hj, e, hp⟩ := idx_at (h.inEx hs (by omega : (k : Int) < _))
  have e' : inAt g.du s k = j := e
  rw [e', show ((j : Int)).toNat = j from by omega]
  have hd := d_mem hj
  rw [← hd] at hp
  exact ⟨by omega, by omega, (inP_iff.1 hp).1, by rw [hd]; exact List.getElem_mem hj⟩
theorem duct_entry {g : Gr} (h : g.Laid) {s : Nat} (hs : s < g.st.length) {d : Dct} (hd : d ∈ g.du) (hto : d.to = s) : ∃ x ∈ g.insOf s, g.d x.toNat = d := by
  obtain ⟨j, hj, rfl⟩ := List.getElem_of_mem hd
  obtain ⟨_, _, _, f4, _, f6⟩ := h.fit hj
  rw [d_mem hj] at f4 f6
  have e : inAt g.du s (g.du[j]).inn = j := by
    refine idx_one hj (inP_iff.2 ⟨hto, rfl⟩) fun i hi => ?_
    have hp := h.inPair
    rw [List.pairwise_iff_getElem] at hp
    have := hp i j (by omega) hj hi
    exact inP_no.2 fun ⟨a, b⟩ => this ⟨by rw [a, hto], b⟩
  refine ⟨(j : Int), ?_, ?_⟩
  · rw [insOf_eq hs, List.mem_map]
    refine ⟨(g.du[j]).inn.toNat, List.mem_range.2 ?_, ?_⟩
    · rw [show (g.du[j]).to.toNat = s from by omega] at f4; omega
    · rw [show (((g.du[j]).inn.toNat : Nat) : Int) = (g.du[j]).inn from by omega]; exact e
  · rw [show ((j : Int)).toNat = j from by omega, d_mem hj]
theorem cand_rows {g : Gr} (h : g.Laid) {l : List Nat} {i : Nat} (hi : i < g.st.length) : g.cand l i = true ↔ i ∉ l ∧ ∀ x ∈ g.insOf i, hasN l (g.d x.toNat).frm = true := by
  rw [cand_iff]
  refine and_congr_right fun _ => ⟨fun k x hx => ?_, fun k d hd e => ?_⟩
  · obtain ⟨_, _, h3, h4⟩ := in_entry h hi hx
    exact k _ h4 h3
  · obtain ⟨x, hx, rfl⟩ := duct_entry h hi hd e
    exact k x hx
end Go.Proofs.Ytljldkknopmfhaa

/- Graphs: in the order each duct leads forward; what the loops of an order go by. Plainly. -/
namespace Go.Proofs.Ytljldkknopmfhaa

theorem orderN_take {g : Gr} (h : g.Whole) {k m : Nat} (hk : k ≤ m) (hm : m ≤ g.st.length) : (g.orderN m).take k = g.orderN k := by
  obtain ⟨d, rfl⟩ := Nat.exists_eq_add_of_le hk
  obtain ⟨r, hr⟩ := orderN_mono (g := g) k d
  rw [hr]
  exact List.take_left' (orderN_ok h k (by omega)).len
theorem order_ok {g : Gr} (h : g.Whole) : OrderOk g g.order g.st.length := orderN_ok h _ (Nat.le_refl _)
theorem order_at {g : Gr} (h : g.Whole) {q : Nat} (hq : q < g.st.length) : ∃ i, i < g.st.length ∧ g.order[q]? = some i ∧ g.cand (g.orderN q) i = true := by
  have ho := orderN_ok h q (by omega)
  obtain ⟨i, hi, h1, h2, _⟩ := order_next h ho hq
  refine ⟨i, hi, ?_, h2⟩
  have e1 : g.order.take (q + 1) = g.orderN q ++ [i] := by
    unfold Gr.order
    rw [orderN_take h (by omega) (Nat.le_refl _)]
    simp only [Gr.orderN, h1, Option.toList]
  have e2 : (g.order.take (q + 1))[q]? = some i := by
    rw [e1, List.getElem?_append_right (by rw [ho.len]; omega), ho.len]; simp
  rwa [List.getElem?_take_of_lt (by omega)] at e2
/-- Each duct leads forward. -/
theorem order_forward {g : Gr} (h : g.Whole) {d : Dct} (hd : d ∈ g.du) : ∃ p q, p < q ∧ q < g.st.length ∧ g.order[p]? = some d.frm.toNat ∧ g.order[q]? = some d.to.toNat := by
  obtain ⟨⟨f1, f2⟩, t1, t2⟩ := h.toLaid.ends d hd
  have ho := order_ok h
  have hto : d.to.toNat ∈ g.order := ho.all (by omega)
  obtain ⟨q, hq, eq⟩ := List.getElem_of_mem hto
  have hqn : q < g.st.length := by rw [← ho.len]; exact hq
  obtain ⟨i, hi, e1, e2⟩ := order_at h hqn
  rw [List.getElem?_eq_getElem hq, eq] at e1
  injection e1 with e1
  subst e1
  have := (cand_iff.1 e2).2 d hd (by omega)
  obtain ⟨s, hs, es⟩ := hasN_iff.1 this
  have e3 : g.orderN q = g.order.take q := (orderN_take h (by omega) (Nat.le_refl _)).symm
  rw [e3] at hs
  obtain ⟨p, hp, ep⟩ := List.getElem_of_mem hs
  have hpq : p < q := by simp at hp; omega
  refine ⟨p, q, hpq, hqn, ?_, by rw [List.getElem?_eq_getElem hq, eq]⟩
  have hs' : s = d.frm.toNat := by omega
  rw [← hs', ← ep]
  rw [List.getElem_take, List.getElem?_eq_getElem]
/-- Two places of an order that hold the same are one. -/
theorem order_inj {g : Gr} (h : g.Whole) {p q i : Nat} (hp : g.order[p]? = some i) (hq : g.order[q]? = some i) : p = q := by
  have hn := (order_ok h).nodup
  obtain ⟨h1, e1⟩ := List.getElem?_eq_some_iff.1 hp
  obtain ⟨h2, e2⟩ := List.getElem?_eq_some_iff.1 hq
  rw [List.nodup_iff_pairwise_ne, List.pairwise_iff_getElem] at hn
  rcases Nat.lt_trichotomy p q with h0 | h0 | h0
  · exact absurd (e1.trans e2.symm) (hn p q h1 h2 h0)
  · exact h0
  · exact absurd (e2.trans e1.symm) (hn q p h2 h1 h0)

/-- Where the program stands in its loop: m stages are in the row, none ahead of i may come next. -/
structure OSt (g : Gr) (l : List Nat) (m i : Nat) : Prop where
  row : l = g.orderN m
  le : m ≤ g.st.length
  ile : i ≤ g.st.length
  no : ∀ j, j < i → g.cand l j = false
theorem ost_start (g : Gr) : OSt g [] 0 0 := ⟨rfl, Nat.zero_le _, Nat.zero_le _, fun j hj => absurd hj (by omega)⟩
theorem OSt.skip {g : Gr} {l : List Nat} {m i : Nat} (h : OSt g l m i) (hi : i < g.st.length) (hc : g.cand l i = false) : OSt g l m (i + 1) :=
  ⟨h.row, h.le, hi, fun j hj => by
    by_cases e : j = i
    · subst e; exact hc
    · exact h.no j (by omega)⟩
theorem OSt.lt {g : Gr} {l : List Nat} {m i : Nat} (h : OSt g l m i) (hw : g.Whole) (hi : i < g.st.length) (hc : g.cand l i = true) : m < g.st.length := by
  rcases Nat.lt_or_eq_of_le h.le with h1 | h1
  · exact h1
  · exfalso
    have ho : OrderOk g l g.st.length := by rw [h.row, ← h1]; exact orderN_ok hw m h.le
    exact (cand_iff.1 hc).1 (ho.all hi)
theorem OSt.take {g : Gr} {l : List Nat} {m i : Nat} (h : OSt g l m i) (hw : g.Whole) (hi : i < g.st.length) (hc : g.cand l i = true) : OSt g (l ++ [i]) (m + 1) 0 ∧ m < g.st.length := by
  have hm := h.lt hw hi hc
  refine ⟨⟨?_, hm, Nat.zero_le _, fun j hj => absurd hj (by omega)⟩, hm⟩
  rw [h.row] at hc ⊢
  exact (orderN_succ hi hc fun j hj => by rw [← h.row]; exact h.no j hj).symm
theorem OSt.done {g : Gr} {l : List Nat} {m : Nat} (h : OSt g l m g.st.length) (hw : g.Whole) : l = g.order := by
  rcases Nat.lt_or_eq_of_le h.le with h1 | h1
  · exfalso
    obtain ⟨i, hi, _, hc, _⟩ := order_next hw (orderN_ok hw m h.le) h1
    rw [← h.row] at hc
    rw [h.no i hi] at hc; cases hc
  · rw [h.row, h1]; rfl
theorem OSt.len {g : Gr} {l : List Nat} {m i : Nat} (h : OSt g l m i) (hw : g.Whole) : l.length = m := by
  rw [h.row]; exact (orderN_ok hw m h.le).len
theorem OSt.mem {g : Gr} {l : List Nat} {m i : Nat} (h : OSt g l m i) (hw : g.Whole) : ∀ x ∈ l, x < g.st.length := by
  rw [h.row]; exact (orderN_ok hw m h.le).lt
/-- Where a graph may not be, as the loops find it. -/
structure Gr.P0 (g : Gr) : Prop where
  ns : g.st.length ≤ 16
  nd : g.du.length ≤ 64
structure Gr.P1 (g : Gr) : Prop extends g.P0 where
  st : ∀ i, i < g.st.length → g.stBad i = 0
structure Gr.P2 (g : Gr) : Prop extends g.P1 where
  du : ∀ j, j < g.du.length → g.duBad j = 0
theorem laidAt_many {g : Gr} (h : 16 < g.st.length ∨ 64 < g.du.length) : g.laidAt = some (0, 17) := by
  unfold Gr.laidAt; rw [if_pos h]
theorem laidAt_st {g : Gr} (h : g.P0) {i : Nat} (hi : i < g.st.length) (hn : ∀ j, j < i → g.stBad j = 0) (hb : g.stBad i ≠ 0) : g.laidAt = some ((i : Int), g.stBad i) := by
  unfold Gr.laidAt
  rw [if_neg (by have := h.ns; have := h.nd; omega), firstBad_some g.stBad g.st.length 0 i (by omega) (by omega) hb (fun j _ hj => hn j hj)]
  rfl
theorem laidAt_du {g : Gr} (h : g.P1) {i : Nat} (hi : i < g.du.length) (hn : ∀ j, j < i → g.duBad j = 0) (hb : g.duBad i ≠ 0) : g.laidAt = some ((i : Int), g.duBad i) := by
  unfold Gr.laidAt
  rw [if_neg (by have := h.ns; have := h.nd; omega), firstBad_none _ _ _ fun i _ hi => h.st i (by omega), firstBad_some g.duBad g.du.length 0 i (by omega) (by omega) hb (fun j _ hj => hn j hj)]
  rfl
theorem laidAt_da {g : Gr} (h : g.P2) {i : Nat} (hi : i < g.st.length) (hn : ∀ j, j < i → ¬ g.dang j) (hb : g.dang i) : g.laidAt = some ((i : Int), 13) := by
  have hb' : g.daBad i = 13 := by unfold Gr.daBad; rw [if_pos hb]
  unfold Gr.laidAt
  rw [if_neg (by have := h.ns; have := h.nd; omega), firstBad_none _ _ _ fun i _ hi => h.st i (by omega), firstBad_none _ _ _ fun i _ hi => h.du i (by omega),
    firstBad_some g.daBad g.st.length 0 i (by omega) (by omega) (by rw [hb']; decide) (fun j _ hj => (daBad_zero g j).2 (hn j hj)), hb']
  rfl
theorem Gr.P2.laid {g : Gr} (h : g.P2) (hn : ∀ j, j < g.st.length → ¬ g.dang j) : g.Laid := ⟨h.ns, h.nd, h.st, h.du, hn⟩
theorem Gr.Laid.p2 {g : Gr} (h : g.Laid) : g.P2 := ⟨⟨⟨h.ns, h.nd⟩, h.st⟩, h.du⟩
theorem check_laidAt {g : Gr} {x : Int × Int} (h : g.laidAt = some x) : g.check = x := by
  unfold Gr.check; rw [h]; rfl
theorem check_cy {g : Gr} (h : g.Laid) {i : Nat} (hi : i < g.st.length) (hn : ∀ j, j < i → ¬ g.Reach j j) (hb : g.Reach i i) : g.check = ((i : Int), 15) := by
  have hb' : g.cyBad i = 15 := by unfold Gr.cyBad; rw [if_pos hb]
  unfold Gr.check
  rw [(laid_iff g).2 h, firstBad_some g.cyBad g.st.length 0 i (by omega) (by omega) (by rw [hb']; decide) (fun j _ hj => (cyBad_zero g j).2 (hn j hj)), hb']
  rfl
theorem laidAt_ne0 {g : Gr} {x : Int × Int} (h : g.laidAt = some x) : x.2 ≠ 0 := laidAt_ne h

theorem tab_start (g : Gr) (s : Nat) : g.tab 0 0 s = [] := by
  unfold Gr.tab Gr.inRow Gr.outRow
  split <;> rfl
theorem tab_stage {g : Gr} {i s : Nat} (hi : i < 16) (hs : s < 32) :
    g.tab (i + 1) 0 s = if s = 16 + i then List.replicate (g.s i).outs.toNat (-1) else if s = i then List.replicate (g.s i).ins.toNat (-1) else g.tab i 0 s := by
  unfold Gr.tab
  by_cases h1 : s < 16
  · rw [if_pos h1, if_pos h1, inRow_start, inRow_start, if_neg (by omega : ¬ s = 16 + i)]
    by_cases h2 : s = i
    · subst h2; rw [if_pos (by omega), if_pos rfl]
    · rw [if_neg h2]
      by_cases h3 : s < i
      · rw [if_pos h3, if_pos (by omega)]
      · rw [if_neg h3, if_neg (by omega)]
  · rw [if_neg h1, if_neg h1, outRow_start, outRow_start]
    by_cases h2 : s = 16 + i
    · subst h2
      rw [if_pos rfl, if_pos (by omega), show 16 + i - 16 = i from by omega]
    · rw [if_neg h2, if_neg (by omega : ¬ s = i)]
      by_cases h3 : s - 16 < i
      · rw [if_pos h3, if_pos (by omega)]
      · rw [if_neg h3, if_neg (by omega)]
theorem tab_duct {g : Gr} {i j s : Nat} (hj : j < g.du.length) (hf : g.fits j = true) (hn : g.st.length ≤ 16) :
    g.tab i (j + 1) s = if s = (g.d j).to.toNat then (g.tab i j s).set (g.d j).inn.toNat j else if s = 16 + (g.d j).frm.toNat then (g.tab i j s).set (g.d j).out.toNat j else g.tab i j s := by
  obtain ⟨f1, f2, _⟩ := fits_iff.1 hf
  unfold Gr.tab
  by_cases h1 : s < 16
  · rw [if_pos h1, if_pos h1, inRow_next hj hf]
    split
    · rfl
    · rw [if_neg (by omega)]
  · rw [if_neg h1, if_neg h1, outRow_next hj hf, if_neg (by omega : ¬ s = (g.d j).to.toNat)]
    by_cases h2 : s = 16 + (g.d j).frm.toNat
    · rw [if_pos h2, if_pos (by omega)]
    · rw [if_neg h2, if_neg (by omega)]
theorem tab_in {g : Gr} {i j s : Nat} (hs : s < 16) : g.tab i j s = g.inRow i j s := if_pos hs
theorem tab_out {g : Gr} {i j s : Nat} : g.tab i j (16 + s) = g.outRow i j s := by
  unfold Gr.tab; rw [if_neg (by omega), show 16 + s - 16 = s from by omega]
/-- What a duct finds at its ports. -/
theorem fits_parts {g : Gr} {j : Nat} (_hj : j < g.du.length) : g.fits j = true ↔ (0 ≤ (g.d j).frm ∧ (g.d j).frm < g.st.length) ∧ (0 ≤ (g.d j).to ∧ (g.d j).to < g.st.length) ∧
    ((0 ≤ (g.d j).out ∧ (g.d j).out < (g.outRow g.st.length j (g.d j).frm.toNat).length) ∧ (g.outRow g.st.length j (g.d j).frm.toNat).getD (g.d j).out.toNat 0 < 0) ∧
    ((0 ≤ (g.d j).inn ∧ (g.d j).inn < (g.inRow g.st.length j (g.d j).to.toNat).length) ∧ (g.inRow g.st.length j (g.d j).to.toNat).getD (g.d j).inn.toNat 0 < 0) := by
  rw [fits_iff]
  refine and_congr_right fun h1 => and_congr_right fun h2 => ?_
  rw [outRow_len (by omega), inRow_len (by omega)]
  have ho := idx_range (outP (g.d j).frm (g.d j).out) (g.du.take j)
  have hi := idx_range (inP (g.d j).to (g.d j).inn) (g.du.take j)
  constructor
  · rintro ⟨h3, h4, h5, h6⟩
    rw [outRow_get (by omega) (by omega), inRow_get (by omega) (by omega), show (((g.d j).frm.toNat : Nat) : Int) = (g.d j).frm from by omega, show (((g.d j).out.toNat : Nat) : Int) = (g.d j).out from by omega,
      show (((g.d j).to.toNat : Nat) : Int) = (g.d j).to from by omega, show (((g.d j).inn.toNat : Nat) : Int) = (g.d j).inn from by omega, h5, h6]
    exact ⟨⟨by omega, by decide⟩, by omega, by decide⟩
  · rintro ⟨⟨h3, h5⟩, h4, h6⟩
    rw [outRow_get (by omega) (by omega), show (((g.d j).frm.toNat : Nat) : Int) = (g.d j).frm from by omega, show (((g.d j).out.toNat : Nat) : Int) = (g.d j).out from by omega] at h5
    rw [inRow_get (by omega) (by omega), show (((g.d j).to.toNat : Nat) : Int) = (g.d j).to from by omega, show (((g.d j).inn.toNat : Nat) : Int) = (g.d j).inn from by omega] at h6
    unfold outAt at h5 ⊢
    unfold inAt at h6 ⊢
    exact ⟨by omega, by omega, by omega, by omega⟩
theorem duBad_no {g : Gr} {j : Nat} (h : ¬ g.fits j = true) : g.duBad j = 14 := by
  unfold Gr.duBad; rw [if_pos (by simpa using h)]
theorem duBad_cap {g : Gr} {j : Nat} (h : g.fits j = true) (hc : (g.d j).cap < 1 ∨ 8 < (g.d j).cap) : g.duBad j = 16 := by
  unfold Gr.duBad; rw [if_neg (by simp [h]), if_pos hc]
theorem duBad_ok {g : Gr} {j : Nat} (h : g.fits j = true) (hc : ¬ ((g.d j).cap < 1 ∨ 8 < (g.d j).cap)) : g.duBad j = 0 := by
  unfold Gr.duBad; rw [if_neg (by simp [h]), if_neg hc]
theorem inRow_ge {g : Gr} {i j s : Nat} : ∀ x ∈ g.inRow i j s, -1 ≤ x := by
  unfold Gr.inRow
  split
  · intro x hx
    obtain ⟨k, _, rfl⟩ := List.mem_map.1 hx
    exact (idx_range _ _).1
  · simp
/-- What the document's Reaches has marked: its first loop. -/
def RFst (g : Gr) (n k : Nat) (S : Nat → Bool) : Prop := ∀ y : Nat, S y = true ↔ ∃ j, j < k ∧ (g.d j).frm = n ∧ (g.d j).to = y
theorem rfst_start (g : Gr) (n : Nat) : RFst g n 0 (fun _ => false) := by
  intro y
  refine ⟨fun h => ?_, fun h => ?_⟩
  · cases h
  · obtain ⟨j, hj, _⟩ := h; omega
theorem RFst.skip {g : Gr} {n k : Nat} {S : Nat → Bool} (h : RFst g n k S) (hf : (g.d k).frm ≠ n) : RFst g n (k + 1) S := fun y =>
  (h y).trans ⟨fun ⟨j, hj, r⟩ => ⟨j, by omega, r⟩, fun ⟨j, hj, r1, r2⟩ => by
    by_cases e : j = k
    · subst e; exact absurd r1 hf
    · exact ⟨j, by omega, r1, r2⟩⟩
theorem RFst.mark {g : Gr} {n k : Nat} {S : Nat → Bool} (h : RFst g n k S) (hf : (g.d k).frm = n) (ht : 0 ≤ (g.d k).to) : RFst g n (k + 1) (setB S (g.d k).to.toNat) := fun y => by
  unfold setB
  constructor
  · intro hy
    split at hy
    · rename_i e; subst e
      exact ⟨k, by omega, hf, by omega⟩
    · obtain ⟨j, hj, r⟩ := (h y).1 hy
      exact ⟨j, by omega, r⟩
  · rintro ⟨j, hj, r1, r2⟩
    split
    · rfl
    · rename_i e
      refine (h y).2 ⟨j, ?_, r1, r2⟩
      by_cases e2 : j = k
      · subst e2; omega
      · omega
theorem edge_iff {g : Gr} {a b : Nat} : g.Edge a b ↔ ∃ j, j < g.du.length ∧ (g.d j).frm = a ∧ (g.d j).to = b := by
  constructor
  · rintro ⟨d, hd, h1, h2⟩
    obtain ⟨j, hj, rfl⟩ := List.getElem_of_mem hd
    exact ⟨j, hj, by rw [d_mem hj]; exact h1, by rw [d_mem hj]; exact h2⟩
  · rintro ⟨j, hj, h1, h2⟩
    exact ⟨_, List.getElem_mem hj, by rw [← d_mem hj]; exact h1, by rw [← d_mem hj]; exact h2⟩
theorem RFst.marks {g : Gr} {n : Nat} {S : Nat → Bool} (h : RFst g n g.du.length S) (hl : g.Laid) : Marks g n 0 S :=
  marks_start (fun x y ⟨d, hd, _, e⟩ => by have := (hl.ends d hd).2; have := hl.ns; omega) fun y => (h y).trans edge_iff.symm
/-- .. its rounds. -/
structure RIn (g : Gr) (n : Nat) (S0 S : Nat → Bool) (k : Nat) : Prop where
  mono : ∀ x, S0 x = true → S x = true
  reach : ∀ x, S x = true → g.Reach n x
  did : ∀ j, j < k → ∀ a b : Nat, (g.d j).frm = a → (g.d j).to = b → S0 a = true → S b = true
theorem rin_start {g : Gr} {n r : Nat} {S : Nat → Bool} (h : Marks g n r S) : RIn g n S S 0 := ⟨fun _ x => x, h.reach, fun j hj => absurd hj (by omega)⟩
theorem RIn.skip {g : Gr} {n k : Nat} {S0 S : Nat → Bool} (h : RIn g n S0 S k) (hf : S (g.d k).frm.toNat = false) : RIn g n S0 S (k + 1) :=
  ⟨h.mono, h.reach, fun j hj a b e1 e2 h0 => by
    by_cases e : j = k
    · subst e
      have := h.mono a h0
      rw [show a = (g.d j).frm.toNat from by omega, hf] at this; cases this
    · exact h.did j (by omega) a b e1 e2 h0⟩
theorem RIn.mark {g : Gr} {n k : Nat} {S0 S : Nat → Bool} (h : RIn g n S0 S k) (hk : k < g.du.length) (h1 : 0 ≤ (g.d k).frm) (h2 : 0 ≤ (g.d k).to) (hf : S (g.d k).frm.toNat = true) : RIn g n S0 (setB S (g.d k).to.toNat) (k + 1) := by
  refine ⟨fun x hx => ?_, fun x hx => ?_, fun j hj a b e1 e2 h0 => ?_⟩
  · unfold setB; split
    · rfl
    · exact h.mono x hx
  · unfold setB at hx
    split at hx
    · rename_i e; subst e
      exact .more (h.reach _ hf) (edge_iff.2 ⟨k, hk, by omega, by omega⟩)
    · exact h.reach x hx
  · unfold setB; split
    · rfl
    · rename_i e
      by_cases e3 : j = k
      · subst e3; omega
      · exact h.did j (by omega) a b e1 e2 h0
theorem RIn.round {g : Gr} {n r : Nat} {S0 S : Nat → Bool} (h : RIn g n S0 S g.du.length) (hm : Marks g n r S0) (hl : g.Laid) : Marks g n (r + 1) S :=
  hm.round (fun x y ⟨d, hd, _, e⟩ => by have := (hl.ends d hd).2; have := hl.ns; omega) h.mono h.reach fun x y hx he => by
    obtain ⟨j, hj, e1, e2⟩ := edge_iff.1 he
    exact h.did j hj x y e1 e2 hx

/-- What is told of a graph. -/
noncomputable def Gr.orderL (g : Gr) : List Int := if g.check.2 = 0 then g.order.map (fun (i : Nat) => (i : Int)) else []
noncomputable def Gr.insL (g : Gr) (s : Int) : List Int := if g.check.2 = 0 ∧ 0 ≤ s ∧ s < g.st.length then g.insOf s.toNat else []
noncomputable def Gr.outsL (g : Gr) (s : Int) : List Int := if g.check.2 = 0 ∧ 0 ≤ s ∧ s < g.st.length then g.outsOf s.toNat else []
end Go.Proofs.Ytljldkknopmfhaa
