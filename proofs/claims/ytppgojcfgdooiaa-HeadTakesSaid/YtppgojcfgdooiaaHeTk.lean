/- Head: how many bytes are taken, one by one. Plain. -/
import Derived.Test.YtppgojcfgdooiaaTkn
import Derived.Test.YtppgojcfgdooiaaHeadS
namespace Go.Proofs.Ytppgojcfgdooiaa
open Go.RowKit Go
theorem headI_step (k : Nat) (h1 : 1 ≤ k) (h2 : k ≤ 1000000000) (l : List UInt8) : headI (k : Int) l = (((k - 1 : Nat) : Int), [l ++ [10]], decide (k - 1 = 0)) := by
  unfold headI
  have e : wrap64 ((k : Int) - 1) = ((k - 1 : Nat) : Int) := by unfold wrap64; omega
  rw [e]
  congr 2
  exact decide_eq_decide.2 (by omega)
theorem jt_one (x : List UInt8) (l : List (List UInt8)) : joinM (x :: l) = x ++ [10] ++ joinM l := by simp [joinM]
theorem jt_app (l m : List (List UInt8)) : joinM (l ++ m) = joinM l ++ joinM m := by simp [joinM]
theorem cut_whole : ∀ (c cs : List UInt8) (acc : List (List UInt8)), (cutM c cs acc).2.2 = false → (joinM (cutM c cs acc).1).length + (cutM c cs acc).2.1.length = (joinM acc).length + cs.length + c.length
  | [], cs, acc, _ => by simp [cutM]
  | x :: xs, cs, acc, h => by
    rw [cutM] at h ⊢
    by_cases hx : x = 10
    · rw [if_pos hx] at h ⊢
      have := cut_whole xs [] (acc ++ [cs]) h
      rw [this, jt_app, List.length_append, show (joinM [cs]).length = cs.length + 1 from by simp [joinM]]
      simp; omega
    · rw [if_neg hx] at h ⊢
      by_cases hl : cs.length = 64
      · rw [if_pos hl] at h; simp at h
      · rw [if_neg hl] at h ⊢
        have := cut_whole xs (cs ++ [x]) acc h
        rw [this]; simp; omega
theorem eats_head : ∀ (b cs : List UInt8) (k : Nat), 1 ≤ k → k ≤ 1000000000 → (cutM b cs []).2.2 = false →
    (bmL headI).eats (cs, (k : Int)) b + (if k ≤ (cutM b cs []).1.length then cs.length else 0) = if k ≤ (cutM b cs []).1.length then (joinM ((cutM b cs []).1.take k)).length else b.length
  | [], cs, k, h1, _, _ => by
    have e : ¬ k ≤ (cutM [] cs []).1.length := by simp [cutM]; omega
    rw [if_neg e, if_neg e]; rfl
  | c :: b, cs, k, h1, h2, hf => by
    rw [cutM] at hf ⊢
    by_cases hc : c = 10
    · rw [if_pos hc] at hf ⊢
      rw [List.nil_append, cutM_acc] at hf ⊢
      dsimp only at hf ⊢
      have hst : (bmL headI).step (cs, (k : Int)) c = ((headI (k : Int) cs).2.1.flatten, if (headI (k : Int) cs).2.2 then .inr 0 else .inl ([], (headI (k : Int) cs).1)) := by
        show (if c = 10 then _ else _) = _
        rw [if_pos hc]
      rw [BM.eats, hst, headI_step k h1 h2 cs]
      dsimp only
      by_cases hk : k = 1
      · subst hk
        rw [decide_eq_true (by rfl)]
        have e : 1 ≤ ([cs] ++ (cutM b [] []).1).length := by simp
        rw [if_pos e, if_pos e]
        simp [joinM]; omega
      · rw [decide_eq_false (by omega)]
        have ih := eats_head b [] (k - 1) (by omega) (by omega) hf
        rw [List.length_nil] at ih
        by_cases hle : k - 1 ≤ (cutM b [] []).1.length
        · have e : k ≤ ([cs] ++ (cutM b [] []).1).length := by simp; omega
          rw [if_pos hle, if_pos hle] at ih
          rw [if_pos e, if_pos e]
          obtain ⟨j, rfl⟩ : ∃ j, k = j + 1 := ⟨k - 1, by omega⟩
          rw [Nat.add_sub_cancel] at ih ⊢
          rw [List.singleton_append, List.take_succ_cons, jt_one]
          simp only [Bool.false_eq_true, if_false] at ih ⊢
          rw [List.length_append, List.length_append, ← ih]
          simp; omega
        · have e : ¬ k ≤ ([cs] ++ (cutM b [] []).1).length := by simp; omega
          rw [if_neg hle, if_neg hle] at ih
          rw [if_neg e, if_neg e]
          simp only [Bool.false_eq_true, if_false] at ih ⊢
          rw [List.length_cons]; omega
    · rw [if_neg hc] at hf ⊢
      by_cases hl : cs.length = 64
      · rw [if_pos hl] at hf; simp at hf
      · rw [if_neg hl] at hf ⊢
        have hst : (bmL headI).step (cs, (k : Int)) c = ([], .inl (cs ++ [c], (k : Int))) := by
          show (if c = 10 then _ else if cs.length = 64 then _ else _) = _
          rw [if_neg hc, if_neg hl]
        rw [BM.eats, hst]
        dsimp only
        have ih := eats_head b (cs ++ [c]) k h1 h2 hf
        rw [List.length_append, List.length_singleton] at ih
        by_cases hle : k ≤ (cutM b (cs ++ [c]) []).1.length
        · rw [if_pos hle, if_pos hle] at ih ⊢; omega
        · rw [if_neg hle, if_neg hle] at ih ⊢; rw [List.length_cons]; omega
/-- What HeadTakes says of the bytes that are read. -/
theorem head_took (n : Nat) (h2 : n ≤ 1000000000) (b : List UInt8) (hb : b.length ≤ 90000) (hl : rlong b = false) :
    (drive (modL headI) b true [0] ⟨[], false, decide ((n : Int) = 0), (n : Int)⟩).taken = if n ≤ (rlines b true).length then min (joinM ((rlines b true).take n)).length b.length else b.length := by
  by_cases h0 : n = 0
  · subst h0
    rw [drive_took_done (stands_lines headI) _ (show RepL _ _ from ⟨rfl, by simp⟩), if_pos (Nat.zero_le _)]
    simp [joinM]
  · rw [drive_took (stands_lines headI) _ ([], (n : Int)) (show RepL _ _ from ⟨by simp; omega, rfl, rfl, rfl, by simp⟩) hb]
    have h := eats_head b [] n (by omega) h2 hl
    have hw := cutM_weight b [] []
    simp only [show joinM [] = [] from rfl, List.length_nil, Nat.zero_add] at hw
    rw [List.length_nil] at h
    have hj := joinM_le (cutM b [] []).1 n
    have hr : rlines b true = if (cutM b [] []).2.1 = [] then (cutM b [] []).1 else (cutM b [] []).1 ++ [(cutM b [] []).2.1] := by
      unfold rlines
      unfold rlong at hl
      simp [hl]
    have hJ := cut_whole b [] [] hl
    simp only [show joinM [] = [] from rfl, List.length_nil, Nat.zero_add] at hJ
    generalize cutM b [] [] = k at *
    obtain ⟨ls, cs, f⟩ := k
    dsimp only at *
    rw [hr]
    by_cases hcs : cs = []
    · rw [if_pos hcs]
      by_cases hle : n ≤ ls.length
      · rw [if_pos hle, if_pos hle] at h; rw [if_pos hle]; omega
      · rw [if_neg hle, if_neg hle] at h; rw [if_neg hle]; omega
    · rw [if_neg hcs]
      by_cases hle : n ≤ ls.length
      · rw [if_pos hle, if_pos hle] at h
        rw [if_pos (by simp; omega), List.take_append_of_le_length hle]; omega
      · rw [if_neg hle, if_neg hle] at h
        by_cases hn : n = ls.length + 1
        · rw [if_pos (by simp; omega), List.take_of_length_le (by simp; omega), jt_app]
          have e : (joinM ls).length + cs.length = b.length := by simpa using hJ
          have e2 : (joinM [cs]).length = cs.length + 1 := by simp [joinM]
          rw [List.length_append, e2]; omega
        · rw [if_neg (by simp; omega)]; omega
end Go.Proofs.Ytppgojcfgdooiaa
