/- Graphs: the plain law. What a graph is, where it may not be, its order. Nothing of the program stands here. -/
import Derived.Test.YtljldkknopmfhaaParM
namespace Go.Proofs.Ytljldkknopmfhaa

/-- A stage's parameters. -/
structure Stg where
  k : Int
  n : Int
  A : List UInt8
  B : List UInt8
/-- A duct. -/
structure Dct where
  frm : Int
  out : Int
  to : Int
  inn : Int
  cap : Int
deriving DecidableEq
instance : Inhabited Stg := ⟨⟨0, 0, [], []⟩⟩
instance : Inhabited Dct := ⟨⟨0, 0, 0, 0, 0⟩⟩
structure Gr where
  st : List Stg
  du : List Dct
def Gr.s (g : Gr) (i : Nat) : Stg := g.st.getD i default
def Gr.d (g : Gr) (i : Nat) : Dct := g.du.getD i default
def Stg.chk (s : Stg) : Int := chkR s.k s.n s.A s.B
def Stg.ins (s : Stg) : Int := insR s.k s.n s.A s.B
def Stg.outs (s : Stg) : Int := outsR s.k s.n s.A s.B

/-- The first place at which p holds, from k on; -1: there is none. -/
def idxFrom (p : Dct → Bool) : List Dct → Nat → Int
  | [], _ => -1
  | d :: l, k => if p d then k else idxFrom p l (k + 1)
theorem idxFrom_or (p : Dct → Bool) : ∀ (l : List Dct) (k : Nat), (idxFrom p l k = -1 ∧ ∀ d ∈ l, p d = false) ∨
    ∃ j, ∃ h : j < l.length, idxFrom p l k = ((k + j : Nat) : Int) ∧ p l[j] = true ∧ ∀ i (hi : i < j), p (l[i]'(by omega)) = false
  | [], k => .inl ⟨rfl, by simp⟩
  | d :: l, k => by
    cases hd : p d with
    | true => exact .inr ⟨0, by simp, by simp [idxFrom, hd], by simpa using hd, by simp⟩
    | false =>
      rcases idxFrom_or p l (k + 1) with ⟨h1, h2⟩ | ⟨j, hj, h1, h2, h3⟩
      · refine .inl ⟨by simp [idxFrom, hd, h1], fun x hx => ?_⟩
        rcases List.mem_cons.1 hx with rfl | hx
        · exact hd
        · exact h2 x hx
      · refine .inr ⟨j + 1, by simp; omega, ?_, by simpa using h2, fun i hi => ?_⟩
        · simp only [idxFrom, hd, h1, Bool.false_eq_true, if_false]; omega
        · cases i with
          | zero => simpa using hd
          | succ i => have := h3 i (by omega); simpa using this
theorem idxFrom_snoc (p : Dct → Bool) : ∀ (l : List Dct) (d : Dct) (k : Nat), idxFrom p (l ++ [d]) k = if idxFrom p l k = -1 then (if p d then ((k + l.length : Nat) : Int) else -1) else idxFrom p l k
  | [], d, k => by simp [idxFrom]
  | x :: l, d, k => by
    have ih := idxFrom_snoc p l d (k + 1)
    have e1 : idxFrom p (x :: (l ++ [d])) k = if p x = true then (k : Int) else idxFrom p (l ++ [d]) (k + 1) := rfl
    have e2 : idxFrom p (x :: l) k = if p x = true then (k : Int) else idxFrom p l (k + 1) := rfl
    by_cases hx : p x = true
    · rw [if_pos hx] at e1 e2
      rw [List.cons_append, e1, e2, if_neg (by omega)]
    · rw [if_neg hx] at e1 e2
      rw [List.cons_append, e1, e2, ih, List.length_cons, show k + 1 + l.length = k + (l.length + 1) from by omega]
def inP (i k : Int) (d : Dct) : Bool := decide (d.to = i ∧ d.inn = k)
def outP (i k : Int) (d : Dct) : Bool := decide (d.frm = i ∧ d.out = k)
/-- The duct at a stage's input; -1: there is none. -/
def inAt (l : List Dct) (i k : Int) : Int := idxFrom (inP i k) l 0
/-- The duct at a stage's output; -1: there is none. -/
def outAt (l : List Dct) (i k : Int) : Int := idxFrom (outP i k) l 0
theorem inAt_snoc (l : List Dct) (d : Dct) (i k : Int) : inAt (l ++ [d]) i k = if inAt l i k = -1 then (if inP i k d then (l.length : Int) else -1) else inAt l i k := by
  unfold inAt; rw [idxFrom_snoc]; simp
theorem outAt_snoc (l : List Dct) (d : Dct) (i k : Int) : outAt (l ++ [d]) i k = if outAt l i k = -1 then (if outP i k d then (l.length : Int) else -1) else outAt l i k := by
  unfold outAt; rw [idxFrom_snoc]; simp
theorem idx_range (p : Dct → Bool) (l : List Dct) : -1 ≤ idxFrom p l 0 ∧ idxFrom p l 0 < l.length := by
  rcases idxFrom_or p l 0 with ⟨h, _⟩ | ⟨j, hj, h, _⟩ <;> rw [h] <;> omega
theorem idx_none {p : Dct → Bool} {l : List Dct} : idxFrom p l 0 = -1 ↔ ∀ d ∈ l, p d = false := by
  constructor
  · intro h
    rcases idxFrom_or p l 0 with ⟨_, h2⟩ | ⟨j, hj, h2, _⟩
    · exact h2
    · rw [h2] at h; omega
  · intro h
    rcases idxFrom_or p l 0 with ⟨h1, _⟩ | ⟨j, hj, _, h2, _⟩
    · exact h1
    · rw [h _ (List.getElem_mem hj)] at h2; cases h2
/-- The only one. -/
theorem idx_one {p : Dct → Bool} {l : List Dct} {j : Nat} (hj : j < l.length) (hp : p l[j] = true) (hn : ∀ i (hi : i < j), p (l[i]'(by omega)) = false) : idxFrom p l 0 = j := by
  rcases idxFrom_or p l 0 with ⟨_, h2⟩ | ⟨q, hq, h1, h2, h3⟩
  · rw [h2 _ (List.getElem_mem hj)] at hp; cases hp
  · rw [h1]
    rcases Nat.lt_trichotomy q j with h | h | h
    · rw [hn q h] at h2; cases h2
    · subst h; simp
    · rw [h3 j h] at hp; cases hp

def portB (n ports : Int) : Bool := decide (0 ≤ n ∧ n < ports)
/-- May a duct be, behind those ahead of it? -/
def Gr.fits (g : Gr) (j : Nat) : Bool :=
  portB (g.d j).frm g.st.length && portB (g.d j).to g.st.length && portB (g.d j).out (g.s (g.d j).frm.toNat).outs && portB (g.d j).inn (g.s (g.d j).to.toNat).ins &&
    decide (outAt (g.du.take j) (g.d j).frm (g.d j).out = -1) && decide (inAt (g.du.take j) (g.d j).to (g.d j).inn = -1)
/-- The edges. -/
def Gr.Edge (g : Gr) (a b : Nat) : Prop := ∃ d ∈ g.du, d.frm = a ∧ d.to = b
inductive Gr.Reach (g : Gr) : Nat → Nat → Prop
  | one {a b : Nat} (h : g.Edge a b) : Gr.Reach g a b
  | more {a b c : Nat} (h : Gr.Reach g a b) (k : g.Edge b c) : Gr.Reach g a c
theorem Gr.Reach.trans {g : Gr} {a b c : Nat} (h : g.Reach a b) (k : g.Reach b c) : g.Reach a c := by
  induction k with
  | one e => exact .more h e
  | more _ e ih => exact .more ih e

def Gr.stBad (g : Gr) (i : Nat) : Int := (g.s i).chk
def Gr.duBad (g : Gr) (j : Nat) : Int := if g.fits j = false then 14 else if (g.d j).cap < 1 ∨ 8 < (g.d j).cap then 16 else 0
/-- Has a stage a port without a duct? -/
def Gr.dang (g : Gr) (i : Nat) : Prop := (∃ k : Nat, (k : Int) < (g.s i).ins ∧ inAt g.du i k = -1) ∨ (∃ k : Nat, (k : Int) < (g.s i).outs ∧ outAt g.du i k = -1)
open Classical in
noncomputable def Gr.daBad (g : Gr) (i : Nat) : Int := if g.dang i then 13 else 0
open Classical in
noncomputable def Gr.cyBad (g : Gr) (i : Nat) : Int := if g.Reach i i then 15 else 0

/-- The first i from k on, m of them, of which f is not 0. -/
def firstBad (f : Nat → Int) : Nat → Nat → Option (Int × Int)
  | _, 0 => none
  | k, m + 1 => if f k = 0 then firstBad f (k + 1) m else some (k, f k)
theorem firstBad_none (f : Nat → Int) : ∀ (m k : Nat), (∀ i, k ≤ i → i < k + m → f i = 0) → firstBad f k m = none
  | 0, _, _ => rfl
  | m + 1, k, h => by
    simp only [firstBad, if_pos (h k (by omega) (by omega))]
    exact firstBad_none f m (k + 1) fun i h1 h2 => h i (by omega) (by omega)
theorem firstBad_some (f : Nat → Int) : ∀ (m k i : Nat), k ≤ i → i < k + m → f i ≠ 0 → (∀ j, k ≤ j → j < i → f j = 0) → firstBad f k m = some ((i : Int), f i)
  | 0, k, i, h1, h2, _, _ => by omega
  | m + 1, k, i, h1, h2, h3, h4 => by
    by_cases hk : k = i
    · subst hk
      simp only [firstBad, if_neg h3]
    · simp only [firstBad, if_pos (h4 k (by omega) (by omega))]
      exact firstBad_some f m (k + 1) i (by omega) (by omega) h3 fun j h5 h6 => h4 j (by omega) h6
theorem firstBad_or (f : Nat → Int) : ∀ (m k : Nat), (firstBad f k m = none ∧ ∀ i, k ≤ i → i < k + m → f i = 0) ∨ ∃ i, k ≤ i ∧ i < k + m ∧ f i ≠ 0 ∧ firstBad f k m = some ((i : Int), f i) ∧ ∀ j, k ≤ j → j < i → f j = 0
  | 0, k => .inl ⟨rfl, fun i h1 h2 => by omega⟩
  | m + 1, k => by
    by_cases h : f k = 0
    · rcases firstBad_or f m (k + 1) with ⟨h1, h2⟩ | ⟨i, h1, h2, h3, h4, h5⟩
      · refine .inl ⟨by simp only [firstBad, if_pos h]; exact h1, fun i h3 h4 => ?_⟩
        by_cases hk : k = i
        · subst hk; exact h
        · exact h2 i (by omega) (by omega)
      · refine .inr ⟨i, by omega, by omega, h3, by simp only [firstBad, if_pos h]; exact h4, fun j h6 h7 => ?_⟩
        by_cases hk : k = j
        · subst hk; exact h
        · exact h5 j (by omega) h7
    · exact .inr ⟨k, by omega, by omega, h, by simp only [firstBad, if_neg h], fun j h1 h2 => by omega⟩

/-- Where a graph may not be before its ways are looked at. -/
noncomputable def Gr.laidAt (g : Gr) : Option (Int × Int) :=
  if 16 < g.st.length ∨ 64 < g.du.length then some (0, 17)
  else ((firstBad g.stBad 0 g.st.length).orElse fun _ => firstBad g.duBad 0 g.du.length).orElse fun _ => firstBad g.daBad 0 g.st.length
/-- Where a graph may not be, and why. -/
noncomputable def Gr.check (g : Gr) : Int × Int := (g.laidAt.orElse fun _ => firstBad g.cyBad 0 g.st.length).getD (0, 0)

/-- Of a graph whose ports are all laid. -/
structure Gr.Laid (g : Gr) : Prop where
  ns : g.st.length ≤ 16
  nd : g.du.length ≤ 64
  st : ∀ i, i < g.st.length → g.stBad i = 0
  du : ∀ j, j < g.du.length → g.duBad j = 0
  da : ∀ i, i < g.st.length → ¬ g.dang i
theorem daBad_zero (g : Gr) (i : Nat) : g.daBad i = 0 ↔ ¬ g.dang i := by
  unfold Gr.daBad; split <;> simp_all
theorem cyBad_zero (g : Gr) (i : Nat) : g.cyBad i = 0 ↔ ¬ g.Reach i i := by
  unfold Gr.cyBad; split <;> simp_all
theorem laid_iff (g : Gr) : g.laidAt = none ↔ g.Laid := by
  unfold Gr.laidAt
  constructor
  · intro h
    split at h
    · cases h
    · rename_i h0
      rcases firstBad_or g.stBad g.st.length 0 with ⟨e1, f1⟩ | ⟨i, _, _, _, e1, _⟩
      · rcases firstBad_or g.duBad g.du.length 0 with ⟨e2, f2⟩ | ⟨i, _, _, _, e2, _⟩
        · rcases firstBad_or g.daBad g.st.length 0 with ⟨e3, f3⟩ | ⟨i, _, _, _, e3, _⟩
          · exact ⟨by omega, by omega, fun i hi => f1 i (by omega) (by omega), fun i hi => f2 i (by omega) (by omega), fun i hi => (daBad_zero g i).1 (f3 i (by omega) (by omega))⟩
          · rw [e1, e2, e3] at h; cases h
        · rw [e1, e2] at h; cases h
      · rw [e1] at h; cases h
  · intro h
    rw [if_neg (by have := h.ns; have := h.nd; omega)]
    rw [firstBad_none _ _ _ fun i _ hi => h.st i (by omega), firstBad_none _ _ _ fun i _ hi => h.du i (by omega), firstBad_none _ _ _ fun i _ hi => (daBad_zero g i).2 (h.da i (by omega))]
    rfl
/-- A graph that may be. -/
structure Gr.Whole (g : Gr) : Prop extends g.Laid where
  cy : ∀ i, i < g.st.length → ¬ g.Reach i i
theorem laidAt_ne {g : Gr} {x : Int × Int} (h : g.laidAt = some x) (hs : ∀ i, i < g.st.length → g.stBad i ≠ 0 → True) : x.2 ≠ 0 := by
  clear hs
  unfold Gr.laidAt at h
  split at h
  · cases h; decide
  · rcases firstBad_or g.stBad g.st.length 0 with ⟨e1, _⟩ | ⟨i, _, _, n1, e1, _⟩
    · rcases firstBad_or g.duBad g.du.length 0 with ⟨e2, _⟩ | ⟨i, _, _, n2, e2, _⟩
      · rcases firstBad_or g.daBad g.st.length 0 with ⟨e3, _⟩ | ⟨i, _, _, n3, e3, _⟩
        · rw [e1, e2, e3] at h; cases h
        · rw [e1, e2, e3] at h; cases h; exact n3
      · rw [e1, e2] at h; cases h; exact n2
    · rw [e1] at h; cases h; exact n1
theorem check_ok (g : Gr) : (g.check).2 = 0 ↔ g.Whole := by
  unfold Gr.check
  cases hl : g.laidAt with
  | some x =>
    have hx := laidAt_ne hl (fun _ _ _ => trivial)
    constructor
    · intro h; exact absurd h hx
    · intro h; rw [(laid_iff g).2 h.toLaid] at hl; cases hl
  | none =>
    have hL := (laid_iff g).1 hl
    rcases firstBad_or g.cyBad g.st.length 0 with ⟨e, f⟩ | ⟨i, _, hi, n, e, _⟩
    · rw [e]
      exact ⟨fun _ => ⟨hL, fun i hi => (cyBad_zero g i).1 (f i (by omega) (by omega))⟩, fun _ => rfl⟩
    · rw [e]
      constructor
      · intro h; exact absurd h n
      · intro h; exact absurd ((cyBad_zero g i).2 (h.cy i (by omega))) n
theorem check_whole {g : Gr} (h : g.Whole) : g.check = (0, 0) := by
  unfold Gr.check
  rw [(laid_iff g).2 h.toLaid, firstBad_none _ _ _ fun i _ hi => (cyBad_zero g i).2 (h.cy i (by omega))]
  rfl
theorem fits_iff {g : Gr} {j : Nat} : g.fits j = true ↔ (0 ≤ (g.d j).frm ∧ (g.d j).frm < g.st.length) ∧ (0 ≤ (g.d j).to ∧ (g.d j).to < g.st.length) ∧ (0 ≤ (g.d j).out ∧ (g.d j).out < (g.s (g.d j).frm.toNat).outs) ∧
    (0 ≤ (g.d j).inn ∧ (g.d j).inn < (g.s (g.d j).to.toNat).ins) ∧ outAt (g.du.take j) (g.d j).frm (g.d j).out = -1 ∧ inAt (g.du.take j) (g.d j).to (g.d j).inn = -1 := by
  unfold Gr.fits portB
  simp only [Bool.and_eq_true, decide_eq_true_eq, and_assoc]
theorem duBad_fits {g : Gr} {j : Nat} (h : g.duBad j = 0) : g.fits j = true ∧ 1 ≤ (g.d j).cap ∧ (g.d j).cap ≤ 8 := by
  unfold Gr.duBad at h
  split at h
  · cases h
  · rename_i h0
    split at h
    · cases h
    · exact ⟨by simpa using h0, by omega, by omega⟩
theorem d_mem {g : Gr} {j : Nat} (h : j < g.du.length) : g.d j = g.du[j] := by
  simp [Gr.d, List.getD_eq_getElem?_getD, h]
theorem Gr.Laid.ends {g : Gr} (h : g.Laid) : ∀ d ∈ g.du, (0 ≤ d.frm ∧ d.frm < g.st.length) ∧ (0 ≤ d.to ∧ d.to < g.st.length) := by
  intro d hd
  obtain ⟨j, hj, rfl⟩ := List.getElem_of_mem hd
  have := fits_iff.1 (duBad_fits (h.du j hj)).1
  rw [d_mem hj] at this
  exact ⟨this.1, this.2.1⟩
end Go.Proofs.Ytljldkknopmfhaa
