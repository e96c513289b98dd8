/- The document's Check, Arity, Bound. -/
import Derived.Test.YtppgojcfgdooiaaParS
namespace Go.Proofs.Ytppgojcfgdooiaa
open Go.RowKit

def IPost (w : World) (n : Int) (e : Ending) (w' : World) : Prop := e = .returned (.int .i64 n) ∧ Fr No w w'
theorem rowR_bounds (k n : Int) (A B : List UInt8) (h : rowR k n A B = true) : 0 ≤ n ∧ (k = 13 → n ≤ 4) := by
  unfold rowR withinB at h
  split at h
  · simp at h; omega
  split at h
  · simp at h; omega
  split at h
  · simp at h; omega
  split at h
  · simp at h; omega
  split at h
  · simp at h; omega
  split at h
  · simp at h; omega
  split at h
  · simp at h; omega
  split at h
  · simp at h; omega
  split at h
  · simp at h; omega
  split at h
  · simp at h; omega
  split at h
  · simp at h; omega
  simp at h
set_option maxRecDepth 100000 in
theorem holds_1 (n : Int) (vA vB : Value) (w : World) (hn : 0 ≤ n) :
    Calls Try.prog 28 #[.agg #[.int .i64 1, .int .i64 n, vA, vB]] w (IPost w (holdsR 1 n)) := by
  by_cases h1 : 100 < n
  · have e : holdsR 1 n = 0 := by simp [holdsR]
    rw [e]; clear e
    go_enter Try.func28, Try.ntmps28
    go_wp2
    go_ret
    exact ⟨rfl, (Fr.refl _ _).alloc _⟩
  · have e : holdsR 1 n = 0 := by simp [holdsR]
    rw [e]; clear e
    go_enter Try.func28, Try.ntmps28
    go_wp2
    go_ret
    exact ⟨rfl, (Fr.refl _ _).alloc _⟩
set_option maxRecDepth 100000 in
theorem holds_2 (n : Int) (vA vB : Value) (w : World) (hn : 0 ≤ n) :
    Calls Try.prog 28 #[.agg #[.int .i64 2, .int .i64 n, vA, vB]] w (IPost w (holdsR 2 n)) := by
  by_cases h1 : 100 < n
  · have e : holdsR 2 n = 0 := by simp [holdsR]
    rw [e]; clear e
    go_enter Try.func28, Try.ntmps28
    go_wp2
    go_ret
    exact ⟨rfl, (Fr.refl _ _).alloc _⟩
  · have e : holdsR 2 n = 0 := by simp [holdsR]
    rw [e]; clear e
    go_enter Try.func28, Try.ntmps28
    go_wp2
    go_ret
    exact ⟨rfl, (Fr.refl _ _).alloc _⟩
set_option maxRecDepth 100000 in
theorem holds_3 (n : Int) (vA vB : Value) (w : World) (hn : 0 ≤ n) :
    Calls Try.prog 28 #[.agg #[.int .i64 3, .int .i64 n, vA, vB]] w (IPost w (holdsR 3 n)) := by
  by_cases h1 : 100 < n
  · have e : holdsR 3 n = 64 := by simp [holdsR]
    rw [e]; clear e
    go_enter Try.func28, Try.ntmps28
    go_wp2
    go_ret
    exact ⟨rfl, (Fr.refl _ _).alloc _⟩
  · have e : holdsR 3 n = 64 := by simp [holdsR]
    rw [e]; clear e
    go_enter Try.func28, Try.ntmps28
    go_wp2
    go_ret
    exact ⟨rfl, (Fr.refl _ _).alloc _⟩
set_option maxRecDepth 100000 in
theorem holds_4 (n : Int) (vA vB : Value) (w : World) (hn : 0 ≤ n) :
    Calls Try.prog 28 #[.agg #[.int .i64 4, .int .i64 n, vA, vB]] w (IPost w (holdsR 4 n)) := by
  by_cases h1 : 100 < n
  · have e : holdsR 4 n = 10000 := by simp [holdsR, h1]
    rw [e]; clear e
    go_enter Try.func28, Try.ntmps28
    go_wp2
    go_ret
    exact ⟨rfl, (Fr.refl _ _).alloc _⟩
  · have e : holdsR 4 n = 64 + 64 * n := by simp [holdsR, h1]
    rw [e]; clear e
    go_enter Try.func28, Try.ntmps28
    go_wp2
    go_ret
    exact ⟨rfl, (Fr.refl _ _).alloc _⟩
set_option maxRecDepth 100000 in
theorem holds_5 (n : Int) (vA vB : Value) (w : World) (hn : 0 ≤ n) :
    Calls Try.prog 28 #[.agg #[.int .i64 5, .int .i64 n, vA, vB]] w (IPost w (holdsR 5 n)) := by
  by_cases h1 : 100 < n
  · have e : holdsR 5 n = 64 := by simp [holdsR]
    rw [e]; clear e
    go_enter Try.func28, Try.ntmps28
    go_wp2
    go_ret
    exact ⟨rfl, (Fr.refl _ _).alloc _⟩
  · have e : holdsR 5 n = 64 := by simp [holdsR]
    rw [e]; clear e
    go_enter Try.func28, Try.ntmps28
    go_wp2
    go_ret
    exact ⟨rfl, (Fr.refl _ _).alloc _⟩
set_option maxRecDepth 100000 in
theorem holds_6 (n : Int) (vA vB : Value) (w : World) (hn : 0 ≤ n) :
    Calls Try.prog 28 #[.agg #[.int .i64 6, .int .i64 n, vA, vB]] w (IPost w (holdsR 6 n)) := by
  by_cases h1 : 100 < n
  · have e : holdsR 6 n = 0 := by simp [holdsR]
    rw [e]; clear e
    go_enter Try.func28, Try.ntmps28
    go_wp2
    go_ret
    exact ⟨rfl, (Fr.refl _ _).alloc _⟩
  · have e : holdsR 6 n = 0 := by simp [holdsR]
    rw [e]; clear e
    go_enter Try.func28, Try.ntmps28
    go_wp2
    go_ret
    exact ⟨rfl, (Fr.refl _ _).alloc _⟩
set_option maxRecDepth 100000 in
theorem holds_7 (n : Int) (vA vB : Value) (w : World) (hn : 0 ≤ n) :
    Calls Try.prog 28 #[.agg #[.int .i64 7, .int .i64 n, vA, vB]] w (IPost w (holdsR 7 n)) := by
  by_cases h1 : 100 < n
  · have e : holdsR 7 n = 64 := by simp [holdsR]
    rw [e]; clear e
    go_enter Try.func28, Try.ntmps28
    go_wp2
    go_ret
    exact ⟨rfl, (Fr.refl _ _).alloc _⟩
  · have e : holdsR 7 n = 64 := by simp [holdsR]
    rw [e]; clear e
    go_enter Try.func28, Try.ntmps28
    go_wp2
    go_ret
    exact ⟨rfl, (Fr.refl _ _).alloc _⟩
set_option maxRecDepth 100000 in
theorem holds_8 (n : Int) (vA vB : Value) (w : World) (hn : 0 ≤ n) :
    Calls Try.prog 28 #[.agg #[.int .i64 8, .int .i64 n, vA, vB]] w (IPost w (holdsR 8 n)) := by
  by_cases h1 : 100 < n
  · have e : holdsR 8 n = 128 := by simp [holdsR]
    rw [e]; clear e
    go_enter Try.func28, Try.ntmps28
    go_wp2
    go_ret
    exact ⟨rfl, (Fr.refl _ _).alloc _⟩
  · have e : holdsR 8 n = 128 := by simp [holdsR]
    rw [e]; clear e
    go_enter Try.func28, Try.ntmps28
    go_wp2
    go_ret
    exact ⟨rfl, (Fr.refl _ _).alloc _⟩
set_option maxRecDepth 100000 in
theorem holds_9 (n : Int) (vA vB : Value) (w : World) (hn : 0 ≤ n) :
    Calls Try.prog 28 #[.agg #[.int .i64 9, .int .i64 n, vA, vB]] w (IPost w (holdsR 9 n)) := by
  by_cases h1 : 100 < n
  · have e : holdsR 9 n = 0 := by simp [holdsR]
    rw [e]; clear e
    go_enter Try.func28, Try.ntmps28
    go_wp2
    go_ret
    exact ⟨rfl, (Fr.refl _ _).alloc _⟩
  · have e : holdsR 9 n = 0 := by simp [holdsR]
    rw [e]; clear e
    go_enter Try.func28, Try.ntmps28
    go_wp2
    go_ret
    exact ⟨rfl, (Fr.refl _ _).alloc _⟩
set_option maxRecDepth 100000 in
theorem holds_10 (n : Int) (vA vB : Value) (w : World) (hn : 0 ≤ n) :
    Calls Try.prog 28 #[.agg #[.int .i64 10, .int .i64 n, vA, vB]] w (IPost w (holdsR 10 n)) := by
  by_cases h1 : 100 < n
  · have e : holdsR 10 n = 64 := by simp [holdsR]
    rw [e]; clear e
    go_enter Try.func28, Try.ntmps28
    go_wp2
    go_ret
    exact ⟨rfl, (Fr.refl _ _).alloc _⟩
  · have e : holdsR 10 n = 64 := by simp [holdsR]
    rw [e]; clear e
    go_enter Try.func28, Try.ntmps28
    go_wp2
    go_ret
    exact ⟨rfl, (Fr.refl _ _).alloc _⟩
set_option maxRecDepth 100000 in
theorem holds_11 (n : Int) (vA vB : Value) (w : World) (hn : 0 ≤ n) :
    Calls Try.prog 28 #[.agg #[.int .i64 11, .int .i64 n, vA, vB]] w (IPost w (holdsR 11 n)) := by
  by_cases h1 : 100 < n
  · have e : holdsR 11 n = 320 := by simp [holdsR]
    rw [e]; clear e
    go_enter Try.func28, Try.ntmps28
    go_wp2
    go_ret
    exact ⟨rfl, (Fr.refl _ _).alloc _⟩
  · have e : holdsR 11 n = 320 := by simp [holdsR]
    rw [e]; clear e
    go_enter Try.func28, Try.ntmps28
    go_wp2
    go_ret
    exact ⟨rfl, (Fr.refl _ _).alloc _⟩
set_option maxRecDepth 100000 in
theorem holds_12 (n : Int) (vA vB : Value) (w : World) (hn : 0 ≤ n) :
    Calls Try.prog 28 #[.agg #[.int .i64 12, .int .i64 n, vA, vB]] w (IPost w (holdsR 12 n)) := by
  by_cases h1 : 100 < n
  · have e : holdsR 12 n = 0 := by simp [holdsR]
    rw [e]; clear e
    go_enter Try.func28, Try.ntmps28
    go_wp2
    go_ret
    exact ⟨rfl, (Fr.refl _ _).alloc _⟩
  · have e : holdsR 12 n = 0 := by simp [holdsR]
    rw [e]; clear e
    go_enter Try.func28, Try.ntmps28
    go_wp2
    go_ret
    exact ⟨rfl, (Fr.refl _ _).alloc _⟩
set_option maxRecDepth 100000 in
theorem holds_13 (n : Int) (vA vB : Value) (w : World) (hn : 0 ≤ n) (h13 : n ≤ 4) :
    Calls Try.prog 28 #[.agg #[.int .i64 13, .int .i64 n, vA, vB]] w (IPost w (holdsR 13 n)) := by
  by_cases h1 : 100 < n
  · omega
  · have e : holdsR 13 n = 96 * n := by simp [holdsR]
    rw [e]; clear e
    go_enter Try.func28, Try.ntmps28
    go_wp2
    go_ret
    exact ⟨rfl, (Fr.refl _ _).alloc _⟩
set_option maxRecDepth 100000 in
theorem holds_14 (n : Int) (vA vB : Value) (w : World) (hn : 0 ≤ n) :
    Calls Try.prog 28 #[.agg #[.int .i64 14, .int .i64 n, vA, vB]] w (IPost w (holdsR 14 n)) := by
  by_cases h1 : 100 < n
  · have e : holdsR 14 n = 10000 := by simp [holdsR, h1]
    rw [e]; clear e
    go_enter Try.func28, Try.ntmps28
    go_wp2
    go_ret
    exact ⟨rfl, (Fr.refl _ _).alloc _⟩
  · have e : holdsR 14 n = 2 * (64 * n + 96) := by simp [holdsR, h1]
    rw [e]; clear e
    go_enter Try.func28, Try.ntmps28
    go_wp2
    go_ret
    exact ⟨rfl, (Fr.refl _ _).alloc _⟩
set_option maxRecDepth 100000 in
theorem holds_15 (n : Int) (vA vB : Value) (w : World) (hn : 0 ≤ n) :
    Calls Try.prog 28 #[.agg #[.int .i64 15, .int .i64 n, vA, vB]] w (IPost w (holdsR 15 n)) := by
  by_cases h1 : 100 < n
  · have e : holdsR 15 n = 0 := by simp [holdsR]
    rw [e]; clear e
    go_enter Try.func28, Try.ntmps28
    go_wp2
    go_ret
    exact ⟨rfl, (Fr.refl _ _).alloc _⟩
  · have e : holdsR 15 n = 0 := by simp [holdsR]
    rw [e]; clear e
    go_enter Try.func28, Try.ntmps28
    go_wp2
    go_ret
    exact ⟨rfl, (Fr.refl _ _).alloc _⟩
set_option maxRecDepth 100000 in
theorem holds_16 (n : Int) (vA vB : Value) (w : World) (hn : 0 ≤ n) :
    Calls Try.prog 28 #[.agg #[.int .i64 16, .int .i64 n, vA, vB]] w (IPost w (holdsR 16 n)) := by
  by_cases h1 : 100 < n
  · have e : holdsR 16 n = 64 := by simp [holdsR]
    rw [e]; clear e
    go_enter Try.func28, Try.ntmps28
    go_wp2
    go_ret
    exact ⟨rfl, (Fr.refl _ _).alloc _⟩
  · have e : holdsR 16 n = 64 := by simp [holdsR]
    rw [e]; clear e
    go_enter Try.func28, Try.ntmps28
    go_wp2
    go_ret
    exact ⟨rfl, (Fr.refl _ _).alloc _⟩
theorem holds_any (k n : Int) (vA vB : Value) (w : World) (hk : ¬ (k < 1 ∨ 16 < k)) (hn : 0 ≤ n) (h13 : k = 13 → n ≤ 4) :
    Calls Try.prog 28 #[.agg #[.int .i64 k, .int .i64 n, vA, vB]] w (IPost w (holdsR k n)) := by
  rcases kinds k hk with rfl | rfl | rfl | rfl | rfl | rfl | rfl | rfl | rfl | rfl | rfl | rfl | rfl | rfl | rfl | rfl
  · exact holds_1 n vA vB w hn
  · exact holds_2 n vA vB w hn
  · exact holds_3 n vA vB w hn
  · exact holds_4 n vA vB w hn
  · exact holds_5 n vA vB w hn
  · exact holds_6 n vA vB w hn
  · exact holds_7 n vA vB w hn
  · exact holds_8 n vA vB w hn
  · exact holds_9 n vA vB w hn
  · exact holds_10 n vA vB w hn
  · exact holds_11 n vA vB w hn
  · exact holds_12 n vA vB w hn
  · exact holds_13 n vA vB w hn (h13 rfl)
  · exact holds_14 n vA vB w hn
  · exact holds_15 n vA vB w hn
  · exact holds_16 n vA vB w hn

set_option maxRecDepth 100000 in
theorem rcheck_any (k n : Int) (aA aB : Option Addr) (A B : List UInt8) (cA cB : Nat) (w : World) (hA : At w aA (A.map bv)) (hl : A.length ≤ 100000000) (hl2 : B.length ≤ 100000000) :
    Calls Try.prog 12 #[.agg #[.int .i64 k, .int .i64 n, .slice aA A.length cA, .slice aB B.length cB]] w (IPost w (chkR k n A B)) := by
  by_cases h1 : k < 1
  · have e : chkR k n A B = 10 := by unfold chkR; rw [if_pos (.inl h1)]
    rw [e]; clear e
    go_enter Try.func12, Try.ntmps12
    go_wp2
    go_ret
    exact ⟨rfl, (Fr.refl _ _).alloc _⟩
  by_cases h2 : 16 < k
  · have e : chkR k n A B = 10 := by unfold chkR; rw [if_pos (.inr h2)]
    rw [e]; clear e
    go_enter Try.func12, Try.ntmps12
    go_wp2
    go_ret
    exact ⟨rfl, (Fr.refl _ _).alloc _⟩
  have hk : ¬ (k < 1 ∨ 16 < k) := by omega
  have HK := Lib.hid hk
  have e0 : chkR k n A B = if rowR k n A B = false then 11 else if 2048 < holdsR k n then 12 else 0 := by unfold chkR; rw [if_neg hk]
  clear hk
  have hrow := row_any k n aA aB A B cA cB (w.alloc (.cells #[.int .i64 k, .int .i64 n, .slice aA A.length cA, .slice aB B.length cB] 24)) HK.out (hA.fr ((Fr.refl No w).alloc _) (fun _ _ _ _ _ _ x => x)) hl hl2
  cases hr : rowR k n A B with
  | false =>
    rw [hr] at hrow e0
    rw [e0, if_pos rfl]
    clear e0 hr
    go_enter Try.func12, Try.ntmps12
    go_wp2_with (go_at_call 27; refine hrow.mono ?_; rintro e w1 ⟨rfl, hfr1⟩)
    go_ret
    exact ⟨rfl, ((Fr.refl _ _).alloc _).trans hfr1⟩
  | true =>
    obtain ⟨hb1, hb2⟩ := rowR_bounds k n A B hr
    have HB2 := Lib.hid hb2
    rw [hr] at hrow e0
    rw [e0, if_neg (by simp)]
    clear e0 hr hb2
    by_cases h3 : 2048 < holdsR k n
    · rw [if_pos h3]
      have hh := fun W => holds_any k n (.slice aA A.length cA) (.slice aB B.length cB) W HK.out hb1 HB2.out
      generalize holdsR k n = hv at *
      have HH := Lib.hid hh; clear hh
      go_enter Try.func12, Try.ntmps12
      go_wp2_with (first
        | (go_at_call 27; refine hrow.mono ?_; rintro e w1 ⟨rfl, hfr1⟩; obtain ⟨hc1, hz1⟩ := hfr1.at)
        | (go_at_call 28; refine (HH.out _).mono ?_; rintro e w2 ⟨rfl, hfr2⟩))
      go_ret
      exact ⟨rfl, (((Fr.refl _ _).alloc _).trans hfr1).trans hfr2⟩
    · rw [if_neg h3]
      have hh := fun W => holds_any k n (.slice aA A.length cA) (.slice aB B.length cB) W HK.out hb1 HB2.out
      generalize holdsR k n = hv at *
      have HH := Lib.hid hh; clear hh
      go_enter Try.func12, Try.ntmps12
      go_wp2_with (first
        | (go_at_call 27; refine hrow.mono ?_; rintro e w1 ⟨rfl, hfr1⟩; obtain ⟨hc1, hz1⟩ := hfr1.at)
        | (go_at_call 28; refine (HH.out _).mono ?_; rintro e w2 ⟨rfl, hfr2⟩))
      go_ret
      exact ⟨rfl, (((Fr.refl _ _).alloc _).trans hfr1).trans hfr2⟩
end Go.Proofs.Ytppgojcfgdooiaa
