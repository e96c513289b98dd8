/- Match: does a text stand in a line (the document's In)? Plainly, and walked. -/
import Derived.Test.YtcplbhjpefmliaaPlain
import Derived.Test.YtcplbhjpefmliaaJoinP
import Derived.Lib.IndexMore
namespace Go.Proofs.Ytcplbhjpefmliaa
open Go.RowKit

theorem joinM_len : ∀ l : List (List UInt8), l.length ≤ (joinM l).length
  | [] => by simp [joinM]
  | x :: l => by
    have := joinM_len l
    have e : joinM (x :: l) = x ++ [10] ++ joinM l := by simp [joinM]
    rw [e]; simp; omega
theorem joinM_one (x : List UInt8) (l : List (List UInt8)) : joinM (x :: l) = x ++ [10] ++ joinM l := by simp [joinM]
theorem joinM_app (l m : List (List UInt8)) : joinM (l ++ m) = joinM l ++ joinM m := by simp [joinM]
theorem joinM_in (l : List (List UInt8)) (i : Nat) (h : i < l.length) : l[i].length + 1 ≤ (joinM l).length := by
  have e1 : l = l.take i ++ l[i] :: l.drop (i + 1) := by simp
  have e2 := congrArg joinM e1
  rw [joinM_app, joinM_one] at e2
  rw [e2]; simp; omega

/-! Does a text stand in a line? -/
theorem occ_iff (s t : List UInt8) (i : Nat) : Lib.occAt s t i = decide ((s.drop i).take t.length = t) := by
  unfold Lib.occAt
  rw [Bool.eq_iff_iff, List.isPrefixOf_iff_prefix, decide_eq_true_iff]
  constructor
  · rintro ⟨r, hr⟩; rw [← hr]; simp
  · intro h; rw [← h]; exact ⟨_, List.take_append_drop _ _⟩
theorem in_yes (s t : List UInt8) (i : Nat) (hi : i ≤ s.length) (h : (s.drop i).take t.length = t) : Lib.contains s t = true := by
  unfold Lib.contains
  rcases Lib.index_spec s t with ⟨_, h2⟩ | ⟨j, h1, _⟩
  · have := h2 i hi; rw [occ_iff, decide_eq_false_iff_not] at this; exact absurd h this
  · rw [h1]; simp
theorem in_no (s t : List UInt8) (q : Nat) (hq : s.length < q + t.length) (h : ∀ i, i < q → (s.drop i).take t.length ≠ t) : Lib.contains s t = false := by
  unfold Lib.contains
  rcases Lib.index_spec s t with ⟨h1, _⟩ | ⟨j, h1, h2, h3, _⟩
  · rw [h1]; simp
  · rw [occ_iff, decide_eq_true_iff] at h3
    by_cases hj : j < q
    · exact absurd h3 (h j hj)
    · have h4 := congrArg List.length h3
      simp at h4
      omega
def RetB (w : World) (b : Bool) (e : Ending) (w' : World) : Prop := e = .returned (.bool b) ∧ w' = w
set_option maxHeartbeats 4000000 in
set_option maxRecDepth 100000 in
theorem in_any (s t : List UInt8) (w : World) (hs : s.length ≤ 1000000) (ht : t.length ≤ 1000000) :
    Calls Try.prog 69 #[sv s, sv t] w (RetB w (Lib.contains s t)) := by
  go_enter Try.func69, Try.ntmps69
  go_wp2
  go_loop [5] (fun i => ∃ q : Nat, q ≤ s.length + 1 ∧ i = .int .i64 q ∧ Hid (∀ j, j < q → (s.drop j).take t.length ≠ t)) (fun i => s.length + 1 - (intOf i).toNat)
  case atStart => exact ⟨0, Nat.zero_le _, rfl, Lib.hid (fun j hj => absurd hj (by omega))⟩
  case round =>
    obtain ⟨q, hq, rfl, HN⟩ := hrel
    by_cases hlt : q + t.length ≤ s.length
    · have hqi : (q : Int) + t.length ≤ s.length := by omega
      have hsl : ∀ W : World, (Instr.slice 9 (sv s) (some (.int .i64 q)) (some (.int .i64 ((q : Int) + t.length))) none).run Try.prog W = .ok (sv ((s.drop q).take t.length)) W := fun W => by
        have h := run_slice_string (P := Try.prog) W 9 ⟨s.toArray⟩ .i64 .i64 (q : Int) ((q : Int) + t.length) Try.underlying9 (by omega) (by omega) (by rw [size_mk]; omega)
        refine h.trans ?_
        rw [ByteArray.extract_mk]
        congr 5
        · omega
      by_cases he : (s.drop q).take t.length = t
      · have hin := in_yes s t q (by omega) he
        rw [he] at hsl
        rw [hin]
        have HE := Lib.hid he; clear he hin
        go_wp2
        go_ret
        exact ⟨rfl, rfl⟩
      · have HE := Lib.hid he
        obtain ⟨u, hu⟩ : ∃ u, u = (s.drop q).take t.length := ⟨_, rfl⟩
        rw [← hu] at hsl he
        have HU := Lib.hid hu; clear hu
        have hbe : (u == t) = false := beq_eq_false_iff_ne.2 he
        clear he
        go_wp2
        go_round
        case rel => exact ⟨q + 1, by omega, by go_num, Lib.hid (fun j hj => by
          by_cases h1 : j < q
          · exact HN.out j h1
          · obtain rfl : j = q := by omega
            exact HE.out)⟩
        case measure => simp [intOf]; omega
    · have hqi : ¬ (q : Int) + t.length ≤ s.length := by omega
      have HNO := Lib.hid (in_no s t q (by omega) HN.out)
      go_wp2
      go_ret
      exact ⟨by rw [HNO.out]; rfl, rfl⟩
/-- What it makes of a line: the line, or nothing. -/
def maG (A : List UInt8) (not : Bool) (s : List UInt8) : List (List UInt8) := if Lib.contains s A = not then [] else [s ++ [10]]
def maF (A : List UInt8) (not : Bool) : Each Unit := fun _ s => ((), maG A not s, false)
/-- .. and of all. -/
def pickM (A : List UInt8) (not : Bool) (ls : List (List UInt8)) : List UInt8 := (ls.flatMap (maG A not)).flatten
theorem pick_next (A : List UInt8) (not : Bool) (ls : List (List UInt8)) (q : Nat) (h : q < ls.length) : pickM A not (ls.take (q + 1)) = pickM A not (ls.take q) ++ (maG A not ls[q]).flatten := by
  unfold pickM
  rw [List.take_succ_eq_append_getElem h, List.flatMap_append, List.flatten_append]; simp
theorem pick_len (A : List UInt8) (not : Bool) : ∀ ls : List (List UInt8), (pickM A not ls).length ≤ (joinM ls).length
  | [] => by simp [pickM]
  | x :: ls => by
    have := pick_len A not ls
    have e : joinM (x :: ls) = x ++ [10] ++ joinM ls := by simp [joinM]
    have e2 : pickM A not (x :: ls) = (maG A not x).flatten ++ pickM A not ls := by simp [pickM]
    have h3 : (maG A not x).flatten.length ≤ x.length + 1 := by unfold maG; split <;> simp
    rw [e, e2]; simp at this h3 ⊢; omega
theorem pick_le (A : List UInt8) (not : Bool) (ls : List (List UInt8)) (q : Nat) : (pickM A not (ls.take q)).length ≤ (joinM ls).length := by
  have h := pick_len A not (ls.take q)
  have e : joinM ls = joinM (ls.take q) ++ joinM (ls.drop q) := by rw [← joinM_app, List.take_append_drop]
  rw [e]; simp; omega
end Go.Proofs.Ytcplbhjpefmliaa
