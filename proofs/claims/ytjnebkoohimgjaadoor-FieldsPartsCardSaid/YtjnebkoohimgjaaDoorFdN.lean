/- Fields, plainly: a line parted by a byte; some of its fields. -/
import Derived.Test.YtjnebkoohimgjaaDoorPlain
import Derived.Test.YtjnebkoohimgjaaDoorJoinP
import Derived.Lib.SplitLaws
import Derived.Lib.Join
namespace Go.Proofs.YtjnebkoohimgjaaDoor
open Go.RowKit

/-- One byte more of a line: a field more, or a byte more of the last one. -/
def fldS (c : UInt8) (out : List (List UInt8)) (x : UInt8) : List (List UInt8) := if x = c then out ++ [[]] else out.dropLast ++ [out.getLastD [] ++ [x]]
/-- Fields of a line, parted by a byte. -/
def fldM (c : UInt8) (s : List UInt8) : List (List UInt8) := s.foldl (fldS c) [[]]
theorem fld_next (c : UInt8) (s : List UInt8) (q : Nat) (h : q < s.length) : fldM c (s.take (q + 1)) = fldS c (fldM c (s.take q)) s[q] := by
  unfold fldM
  rw [List.take_succ_eq_append_getElem h, List.foldl_append]; rfl
theorem fldS_pos (c : UInt8) (out : List (List UInt8)) (x : UInt8) : 1 ≤ (fldS c out x).length := by unfold fldS; split <;> simp
theorem fld_pos (c : UInt8) (s : List UInt8) : 1 ≤ (fldM c s).length := by
  have h : ∀ (s : List UInt8) (out : List (List UInt8)), 1 ≤ out.length → 1 ≤ (s.foldl (fldS c) out).length := by
    intro s
    induction s with
    | nil => intro out h; exact h
    | cons x s ih => intro out _; exact ih _ (fldS_pos c out x)
  exact h s [[]] (by simp)
/-- What a row of fields weighs. -/
def wtM (l : List (List UInt8)) : Nat := (l.map (fun x => x.length + 1)).sum
theorem wt_app (a b : List (List UInt8)) : wtM (a ++ b) = wtM a + wtM b := by simp [wtM]
theorem wt_one (x : List UInt8) : wtM [x] = x.length + 1 := by simp [wtM]
theorem wt_step (c : UInt8) (out : List (List UInt8)) (x : UInt8) (h : 1 ≤ out.length) : wtM (fldS c out x) = wtM out + 1 := by
  have hne : out ≠ [] := fun e => by subst e; simp at h
  have e := List.dropLast_concat_getLast hne
  have e2 : out.getLastD [] = out.getLast hne := by
    rw [List.getLastD_eq_getLast?, List.getLast?_eq_some_getLast hne]; rfl
  have e3 : wtM out = wtM out.dropLast + ((out.getLast hne).length + 1) := by
    conv => lhs; rw [← e]
    rw [wt_app, wt_one]
  unfold fldS
  split
  · rw [wt_app, wt_one]; rfl
  · rw [wt_app, wt_one, e2, e3, List.length_append]; simp; omega
theorem fld_wt (c : UInt8) (s : List UInt8) : wtM (fldM c s) = s.length + 1 := by
  have h : ∀ (s : List UInt8) (out : List (List UInt8)), 1 ≤ out.length → wtM (s.foldl (fldS c) out) = wtM out + s.length := by
    intro s
    induction s with
    | nil => intro out _; rfl
    | cons x s ih => intro out h; rw [List.foldl_cons, ih _ (fldS_pos c out x), wt_step c out x h]; simp; omega
  have := h s [[]] (by simp)
  unfold fldM
  rw [this, wt_one]; simp; omega
theorem len_wt : ∀ l : List (List UInt8), l.length ≤ wtM l
  | [] => by simp [wtM]
  | x :: l => by
    have := len_wt l
    have e : wtM (x :: l) = x.length + 1 + wtM l := by simp [wtM]
    rw [e]; simp; omega
theorem fld_len (c : UInt8) (s : List UInt8) : (fldM c s).length ≤ s.length + 1 := by
  have := len_wt (fldM c s)
  rw [fld_wt] at this; exact this

/-! From the front: as the library cuts. -/
def attM (cur : List UInt8) : List (List UInt8) → List (List UInt8)
  | [] => [cur]
  | p :: ps => (cur ++ p) :: ps
def fldF (c : UInt8) : List UInt8 → List (List UInt8)
  | [] => [[]]
  | x :: s => if x = c then [] :: fldF c s else attM [x] (fldF c s)
theorem att_att (a b : List UInt8) (l : List (List UInt8)) : attM a (attM b l) = attM (a ++ b) l := by cases l <;> simp [attM]
theorem att_nil {l : List (List UInt8)} (h : l ≠ []) : attM [] l = l := by
  cases l with
  | nil => exact absurd rfl h
  | cons x l => simp [attM]
theorem fldF_ne (c : UInt8) (s : List UInt8) : fldF c s ≠ [] := by
  cases s with
  | nil => simp [fldF]
  | cons x s =>
    rw [fldF]
    split
    · simp
    · cases fldF c s <;> simp [attM]
theorem fld_front (c : UInt8) : ∀ (s : List UInt8) (pre : List (List UInt8)) (cur : List UInt8), s.foldl (fldS c) (pre ++ [cur]) = pre ++ attM cur (fldF c s)
  | [], pre, cur => by simp [fldF, attM]
  | x :: s, pre, cur => by
    rw [List.foldl_cons]
    by_cases h : x = c
    · have e : fldS c (pre ++ [cur]) x = (pre ++ [cur]) ++ [[]] := by unfold fldS; rw [if_pos h]
      rw [e, fld_front c s, fldF, if_pos h, att_nil (fldF_ne c s)]
      simp [attM]
    · have e : fldS c (pre ++ [cur]) x = pre ++ [cur ++ [x]] := by unfold fldS; rw [if_neg h]; simp
      rw [e, fld_front c s, fldF, if_neg h, att_att]
theorem fldM_front (c : UInt8) (s : List UInt8) : fldM c s = fldF c s := by
  have := fld_front c s [] []
  rw [List.nil_append, List.nil_append, att_nil (fldF_ne c s)] at this
  exact this
theorem fld_split (c : UInt8) : ∀ s : List UInt8, Lib.splitK [c] 0 (Lib.count s [c]) s = fldF c s
  | [] => by rw [Lib.count_one]; rfl
  | b :: l => by
    have ih := fld_split c l
    by_cases h : b = c
    · subst h
      have hix : Lib.index (b :: l) [b] = 0 := by rw [Lib.index]; simp [List.isPrefixOf]
      rw [Lib.count_cons_eq, Nat.add_comm 1, Lib.splitK, hix, if_neg (by decide), fldF, if_pos rfl]
      simp [ih]
    · have hp : ([c] : List UInt8).isPrefixOf (b :: l) = false := by simp [List.isPrefixOf, Ne.symm h]
      have hix : Lib.index (b :: l) [c] = if Lib.index l [c] == -1 then -1 else Lib.index l [c] + 1 := by rw [Lib.index, hp]; simp
      rw [Lib.count_cons_ne b c l h, fldF, if_neg h, ← ih]
      by_cases hm : Lib.index l [c] = -1
      · rw [Lib.count_miss hm]; simp [Lib.splitK, attM]
      · have hge := Lib.index_ge l [c]
        obtain ⟨j, hj⟩ : ∃ j : Nat, Lib.index l [c] = j := ⟨(Lib.index l [c]).toNat, by omega⟩
        have hix' : Lib.index (b :: l) [c] = ((j + 1 : Nat) : Int) := by rw [hix, if_neg (fun e => hm (beq_iff_eq.1 e)), hj]; omega
        rw [Lib.count_hit (by simp) hj, Nat.add_comm 1, Lib.splitK, Lib.splitK, hix', hj, if_neg (fun e => by have := beq_iff_eq.1 e; omega), if_neg (fun e => by have := beq_iff_eq.1 e; omega)]
        simp [attM]
theorem fld_lib (c : UInt8) (s : List UInt8) : (Lib.splitB ⟨#[c]⟩ 0 (Lib.countB ⟨s.toArray⟩ ⟨#[c]⟩) ⟨s.toArray⟩).map Value.string = (fldM c s).map sv := by
  have h := Lib.splitB_data ⟨#[c]⟩ 0 (Lib.countB ⟨s.toArray⟩ ⟨#[c]⟩) ⟨s.toArray⟩
  have e : Lib.splitK [c] 0 (Lib.countB ⟨s.toArray⟩ ⟨#[c]⟩) s = fldF c s := fld_split c s
  rw [show (⟨#[c]⟩ : ByteArray).data.toList = [c] from rfl, show (⟨s.toArray⟩ : ByteArray).data.toList = s from rfl, e, ← fldM_front] at h
  rw [← h, List.map_map]
  exact List.map_congr_left (fun x _ => rfl)
theorem fld_count (c : UInt8) (s : List UInt8) : Lib.countB ⟨s.toArray⟩ ⟨#[c]⟩ + 1 = (fldM c s).length := by
  have h := congrArg List.length (fld_lib c s)
  rw [List.length_map, List.length_map, Lib.splitB_all ⟨#[c]⟩ (show 1 ≤ (⟨#[c]⟩ : ByteArray).size from Nat.le_refl 1) 0 _ _ rfl] at h
  exact h

/-! Some of them. -/
def bitM (n i : Nat) : Prop := i < 16 ∧ n / 2 ^ i % 2 = 1
instance (n i : Nat) : Decidable (bitM n i) := inferInstanceAs (Decidable (_ ∧ _))
def selM (n : Nat) : Nat → List (List UInt8) → List (List UInt8)
  | _, [] => []
  | i, p :: ps => if bitM n i then p :: selM n (i + 1) ps else selM n (i + 1) ps
theorem sel_app (n : Nat) : ∀ (a b : List (List UInt8)) (i : Nat), selM n i (a ++ b) = selM n i a ++ selM n (i + a.length) b
  | [], b, i => rfl
  | x :: a, b, i => by
    rw [List.cons_append, selM, selM, sel_app n a b (i + 1), show i + 1 + a.length = i + (x :: a).length from by simp; omega]
    split <;> rfl
theorem sel_next (n : Nat) (l : List (List UInt8)) (q : Nat) (h : q < l.length) : selM n 0 (l.take (q + 1)) = selM n 0 (l.take q) ++ if bitM n q then [l[q]] else [] := by
  rw [List.take_succ_eq_append_getElem h, sel_app, List.length_take, Nat.min_eq_left (by omega), Nat.zero_add]
  simp [selM]
theorem sel_far (n : Nat) : ∀ (l : List (List UInt8)) (i : Nat), 16 ≤ i → selM n i l = []
  | [], _, _ => rfl
  | x :: l, i, h => by rw [selM, if_neg (fun e => by have := e.1; omega), sel_far n l (i + 1) (by omega)]
theorem sel_16 (n : Nat) (l : List (List UInt8)) (q : Nat) (h : q = l.length ∨ 16 ≤ q) (hq : q ≤ l.length) : selM n 0 (l.take q) = selM n 0 l := by
  rcases h with rfl | h
  · rw [List.take_length]
  · have e := sel_app n (l.take q) (l.drop q) 0
    rw [List.take_append_drop, sel_far n (l.drop q) _ (by rw [List.length_take]; omega), List.append_nil] at e
    exact e.symm
theorem sel_wt (n : Nat) : ∀ (l : List (List UInt8)) (i : Nat), wtM (selM n i l) ≤ wtM l
  | [], _ => Nat.le_refl _
  | x :: l, i => by
    have := sel_wt n l (i + 1)
    have e : wtM (x :: l) = x.length + 1 + wtM l := by simp [wtM]
    rw [selM, e]
    split
    · have e2 : wtM (x :: selM n (i + 1) l) = x.length + 1 + wtM (selM n (i + 1) l) := by simp [wtM]
      rw [e2]; omega
    · omega
theorem sel_len (n : Nat) : ∀ (l : List (List UInt8)) (i : Nat), (selM n i l).length ≤ l.length
  | [], _ => Nat.le_refl _
  | x :: l, i => by
    have := sel_len n l (i + 1)
    rw [selM]
    split <;> simp <;> omega

/-! Joined. -/
theorem join_snoc (c : UInt8) (l : List (List UInt8)) (y : List UInt8) (h : l ≠ []) : Lib.join (l ++ [y]) [c] = Lib.join l [c] ++ [c] ++ y := by
  cases l with
  | nil => exact absurd rfl h
  | cons x l => rw [List.cons_append, Lib.join_cons, Lib.join_cons]; simp [Lib.joinTail]
theorem join_wt (c : UInt8) (x : List UInt8) (l : List (List UInt8)) : (Lib.join (x :: l) [c]).length + 1 = wtM (x :: l) := by
  have e : wtM (x :: l) = x.length + 1 + wtM l := by simp [wtM]
  have h : ∀ l : List (List UInt8), (Lib.joinTail [c] l).length = wtM l := by
    intro l
    induction l with
    | nil => rfl
    | cons y l ih =>
      have e : wtM (y :: l) = y.length + 1 + wtM l := by simp [wtM]
      have e2 : Lib.joinTail [c] (y :: l) = [c] ++ y ++ Lib.joinTail [c] l := by simp [Lib.joinTail]
      rw [e, e2]; simp [ih]; omega
  rw [Lib.join_cons, e, List.length_append, h]; omega
theorem join_le (c : UInt8) (l : List (List UInt8)) : (Lib.join l [c]).length ≤ wtM l - 1 := by
  cases l with
  | nil => simp [Lib.join, List.intercalate]
  | cons x l => have := join_wt c x l; omega
/-- What comes of a line. -/
def lineM (c : UInt8) (n : Nat) (s : List UInt8) : List UInt8 := if (fldM c s).length = 1 then s else Lib.join (selM n 0 (fldM c s)) [c]
theorem line_len (c : UInt8) (n : Nat) (s : List UInt8) : (lineM c n s).length ≤ s.length := by
  unfold lineM
  split
  · exact Nat.le_refl _
  · have h1 := join_le c (selM n 0 (fldM c s))
    have h2 := sel_wt n (fldM c s) 0
    have h3 := fld_wt c s
    omega
/-- What the machine makes of a line. -/
def fdG (c : UInt8) (n : Nat) (s : List UInt8) : List (List UInt8) := [lineM c n s ++ [10]]
def fdF (c : UInt8) (n : Nat) : Each Unit := fun _ s => ((), fdG c n s, false)
/-- .. and of all. -/
def fdAll (c : UInt8) (n : Nat) (ls : List (List UInt8)) : List UInt8 := (ls.flatMap (fdG c n)).flatten
theorem fdAll_next (c : UInt8) (n : Nat) (ls : List (List UInt8)) (q : Nat) (h : q < ls.length) : fdAll c n (ls.take (q + 1)) = fdAll c n (ls.take q) ++ (lineM c n ls[q] ++ [10]) := by
  unfold fdAll
  rw [List.take_succ_eq_append_getElem h, List.flatMap_append, List.flatten_append]; simp [fdG]
theorem jn_one (x : List UInt8) (l : List (List UInt8)) : joinM (x :: l) = x ++ [10] ++ joinM l := by simp [joinM]
theorem jn_app (l m : List (List UInt8)) : joinM (l ++ m) = joinM l ++ joinM m := by simp [joinM]
theorem fdAll_len (c : UInt8) (n : Nat) : ∀ ls : List (List UInt8), (fdAll c n ls).length ≤ (joinM ls).length
  | [] => by simp [fdAll]
  | x :: ls => by
    have := fdAll_len c n ls
    have h := line_len c n x
    have e2 : fdAll c n (x :: ls) = (lineM c n x ++ [10]) ++ fdAll c n ls := by simp [fdAll, fdG]
    rw [jn_one, e2]; simp; omega
theorem fdAll_le (c : UInt8) (n : Nat) (ls : List (List UInt8)) (q : Nat) : (fdAll c n (ls.take q)).length ≤ (joinM ls).length := by
  have h := fdAll_len c n (ls.take q)
  have e : joinM ls = joinM (ls.take q) ++ joinM (ls.drop q) := by rw [← jn_app, List.take_append_drop]
  rw [e]; simp; omega
theorem jn_len : ∀ l : List (List UInt8), l.length ≤ (joinM l).length
  | [] => by simp [joinM]
  | x :: l => by
    have := jn_len l
    rw [jn_one]; simp; omega
theorem jn_in (l : List (List UInt8)) (i : Nat) (h : i < l.length) : l[i].length + 1 ≤ (joinM l).length := by
  have e1 : l = l.take i ++ l[i] :: l.drop (i + 1) := by simp
  have e2 := congrArg joinM e1
  rw [jn_app, jn_one] at e2
  rw [e2]; simp; omega
theorem jn_rlines (b : List UInt8) (ended : Bool) : (joinM (rlines b ended)).length ≤ b.length + 1 := by
  have h := cutM_weight b [] []
  simp only [show joinM [] = [] from rfl, List.length_nil, Nat.zero_add] at h
  unfold rlines
  split
  · omega
  · split
    · have : joinM ((cutM b [] []).1 ++ [(cutM b [] []).2.1]) = joinM (cutM b [] []).1 ++ ((cutM b [] []).2.1 ++ [10]) := by simp [joinM]
      rw [this]; simp only [List.length_append, List.length_cons, List.length_nil]; omega
    · omega
end Go.Proofs.YtjnebkoohimgjaaDoor
